/- Text. -/
import Derived.Test.YtkebegfopnlkhaaAE41
import Derived.Test.YtkebegfopnlkhaaT
import Derived.Test.YtkebegfopnlkhaaN
import Derived.RangeFuncNested
import Derived.RangeFuncBound
import Derived.RangeFuncCalls
import Derived.RangeFuncLeaves
import Derived.RangeFuncBox
import Derived.Shelf.Abstract
import Derived.Shelf.RegionOpen
import Derived.WalkKit
import Derived.OwnWalkIn
import Derived.TacticsInMore
import Derived.LoopNIn
import Derived.LoopIn
import Derived.Lib.QuietBelowIn
set_option linter.unusedSimpArgs false
set_option linter.unusedVariables false
set_option maxRecDepth 100000
namespace Go.Proofs.Ytkebegfopnlkhaa
open Go.RowKit Go.Shelf Go.Proofs Go.Sort
attribute [local go_sem] Oper.semAt_some
def reachP (cs:List Int) (fr:Nat):Nat→Nat→Int→Nat
  | 0,to,_=>to
  | q+1,to,left=>if to < cs.length∧(to=fr∨Go.AE.gt cs to≤left) then reachP cs fr q (to+1) (wrap64 (left - Go.AE.gt cs to)) else to
def divF (cs:List Int) (room:Int):Nat→Nat→List (Nat×Nat)
  | 0,_=>[]
  | q+1,fr=>if fr < cs.length then (fr,reachP cs fr cs.length fr room) :: divF cs room q (reachP cs fr cs.length fr room) else []
def divP (cs:List Int) (room:Int):List (Nat×Nat):=divF cs room cs.length 0
theorem reachP_ge (cs:List Int) (fr:Nat):∀ (q to:Nat) (left:Int),to≤reachP cs fr q to left
  | 0,to,left=>Nat.le_refl _
  | q+1,to,left=>by
    unfold reachP;split
    · have:=reachP_ge cs fr q (to+1) (wrap64 (left - Go.AE.gt cs to));omega
    · exact Nat.le_refl _
theorem reachP_le (cs:List Int) (fr:Nat):∀ (q to:Nat) (left:Int),to≤cs.length→reachP cs fr q to left≤cs.length
  | 0,to,left,h=>h
  | q+1,to,left,h=>by
    unfold reachP;split
    · rename_i hc;exact reachP_le cs fr q (to+1) _ hc.1
    · exact h
theorem reachP_gt (cs:List Int) (fr q:Nat) (left:Int) (h:fr < cs.length):fr < reachP cs fr (q+1) fr left:=by
  unfold reachP
  rw [if_pos ⟨h,.inl rfl⟩]
  have:=reachP_ge cs fr q (fr+1) (wrap64 (left - Go.AE.gt cs fr));omega
theorem wrap_i64 (n:Int):IntKind.i64.wrap n=wrap64 n:=by
  have h:IntKind.i64.wrap n=(if 9223372036854775808≤n % 18446744073709551616 then n % 18446744073709551616 - 18446744073709551616 else n % 18446744073709551616):=by
    unfold IntKind.wrap
    simp [IntKind.bits,show IntKind.i64.signed=true from rfl]
  rw [h];unfold wrap64
  split <;> omega
theorem below_grown {A B:World} (h:A.grownBy B none):Below A.heap.size A B:=⟨h.os,h.tape,h.output,h.size,fun k hk=>h.block k hk (by simp)⟩
theorem grown_below {A B:World} (h:Below A.heap.size A B):A.grownBy B none:=⟨h.os,h.tape,h.output,h.size,fun k hk _=>h.block k hk⟩
theorem size46_in (a:Int) (t:ByteArray) (v:Int) (hv:wrap64 (2+(t.size:Int))=v) (w:World) (d:Nat) (os:Array Obj):CallsIn Fence.wide 7 Try.prog 46 #[.agg #[.int .i64 a,.string t]] (grow (redrawn w d) os) fun e w''=>e = .returned (.int .i64 v)∧∃ p:Regrown,w''=grow (redrawn w p.d) p.os :=
  CallsIn.regrown_of ((callsIn_wide.2 (size46 a t _)).mono fun e w' ⟨h1,h2⟩=>⟨by rw [h1,hv],below_grown h2⟩)
theorem grown_drew (W:World):W.grownBy W.drew none:=⟨rfl,rfl,rfl,Nat.le_refl _,fun _ _ _=>rfl⟩
theorem size49_in (r:Int) (ka:Option Addr) (kl kc:Nat) (da:Option Addr) (dl dc:Nat) (bad:Bool) (v:Int) (hv:sz49 kl dl=v) (w:World) (d:Nat) (os:Array Obj) :
    CallsIn Fence.wide 7 Try.prog 49 #[.agg #[.int .i64 r,.slice ka kl kc,.slice da dl dc,.bool bad]] (grow (redrawn w d) os) fun e w''=>e = .returned (.int .i64 v)∧∃ p:Regrown,w''=grow (redrawn w p.d) p.os :=
  CallsIn.regrown_of ((callsIn_wide.2 (size49 r ka kl kc da dl dc bad _)).mono fun e w' ⟨h1,h2⟩=>⟨by rw [h1,hv],below_grown h2⟩)
set_option maxHeartbeats 8000000 in
theorem walk69 (l b1 b2 b3:Nat) (cs:List Int) (room:Int) (hbig:cs.length≤140737488355328) (J:Nat→World→Prop) (Jx:World→Prop)
    (hJ:∀ k A B,J k A→A.grownBy B none→J k B)
    (hV:∀ k A,J k A→∃ ao cap,A.cell? ⟨b1,0,none⟩=some (.slice ao cs.length cap)∧A.cell? ⟨b2,0,none⟩=some (.int .i64 room)∧A.cell? ⟨b3,0,none⟩=some (.func (.func 46) #[] #[])∧cs.length≤cap ∧
      (0 < cs.length→∃ b off,ao=some ⟨b,off,none⟩∧∀ j,j < cs.length→∃ ctl t,A.cell? ⟨b,off+j * 2,none⟩=some (.int .i64 ctl)∧A.cell? ⟨b,off+j * 2+1,none⟩=some (.string t)∧wrap64 (2+(t.size:Int))=Go.AE.gt cs j))
    (hY:∀ k W1 x,J k W1→(divP cs room)[k]? = some x→∀ cap b off,W1.cell? ⟨b1,0,none⟩=some (.slice (some ⟨b,off,none⟩) cs.length cap) →
      YieldAt Fence.wide 7 Try.prog l #[.int .i64 (x.1:Int),.slice (some ⟨b,off+x.1 * 2,none⟩) (x.2 - x.1) (cap - x.1)] W1 fun e W'=>(e = .returned (.bool true)∧J (k+1) W')∨(e = .returned (.bool false)∧Jx W'))
    (W:World) (h0:J 0 W):CallsIn Fence.wide 8 Try.prog 69 (#[.func (.yield l) #[] #[]] ++ #[.pointer (some ⟨b1,0,none⟩),.pointer (some ⟨b2,0,none⟩),.pointer (some ⟨b3,0,none⟩)]) W fun e W'=>(∃ v,e = .returned v)∧(J (divP cs room).length W'∨Jx W'):=by
  have hmix:=mixed
  refine callsIn_of_wp Try.func69 rfl trivial ?_ rfl
  simp only [Try.ntmps69,List.size_toArray,List.length_cons,List.length_nil,Nat.reduceAdd,Nat.reduceSub,Array.replicate_succ,Array.replicate_zero,List.push_toArray,List.append_toArray,List.nil_append,List.cons_append]
  gi_wp2
  gi_loopw [5] (fun f wr=>∃ k q fr:Nat,f = .int .i64 fr∧fr≤cs.length∧k≤(divP cs room).length∧(divP cs room).drop k=divF cs room q fr∧cs.length≤q+fr∧J k wr)
    (fun f _=>cs.length - (intOf f).toNat)
  case atStart=>exact ⟨0,cs.length,0,rfl,Nat.zero_le _,Nat.zero_le _,rfl,Nat.le_refl _,h0⟩
  case round =>
    obtain ⟨k,q,fr,rfl,hfr,hk,hL,hq,hJk⟩:=hrel
    obtain ⟨ao,cap,hc1,hc2,hc3,hcap,hcell0⟩:=hV k wr hJk
    by_cases hlt:fr < cs.length
    · obtain ⟨b,off,rfl,hcell⟩:=hcell0 (by omega)
      clear hcell hcell0
      gi_wp2
      gi_region
      gi_wp2
      gi_loopw [6,7] (fun t f wi=>∃ (q2 m:Nat) (lf:Int),t = .int .i64 m∧f = .int .i64 lf∧fr≤m∧m≤cs.length∧cs.length≤q2+m∧reachP cs fr q2 m lf=reachP cs fr cs.length fr room∧J k wi)
        (fun t _ _=>cs.length - (intOf t).toNat)
      case atStart=>exact ⟨cs.length,fr,room,rfl,rfl,Nat.le_refl _,hfr,by omega,rfl,hJ _ _ _ hJk (grown_drew _)⟩
      case round =>
        obtain ⟨q2,m,lf,rfl,rfl,hm1,hm2,hq2,hre,hJi⟩:=hrel
        clear hc1 hc2 hc3 hJk
        obtain ⟨ao2,cap2,d1,d2,d3,dcap,dcell0⟩:=hV k _ hJi
        obtain ⟨c2,o2,rfl,dcell⟩:=dcell0 (by omega)
        clear dcell0
        by_cases hlm:m < cs.length
        · obtain ⟨ctl,t,e1,e2,e3⟩:=dcell m hlm
          have cQ0:=fun w=>size46_in ctl t _ e3 w
          have cQ:=cQ0 wr
          have k0:=cell_regrown d1
          have k1:=cell_regrown d2
          have k2:=cell_regrown d3
          have k3:=cell_regrown e1
          have k4:=cell_regrown e2
          by_cases hmf:m=fr
          · subst hmf
            gi_wp2
            refine wpIn_region_quiet_below rfl (by assumption) (by kernel_rfl) ?_
            repeat (refine wpQuietIn_step (fun _ _ _ _=>trivial) (fun K hK=>?_);go_simp;first | (refine hK _ ?_;clear hK K) | (apply Exists.intro;refine ⟨fun _=>?_,hK _ ?_⟩;(first | exact ⟨trivial,cQ _ _⟩ | exact cQ _ _);clear hK K))
            refine wpQuietIn_nil ?_
            rintro _ ⟨⟨dq,osq⟩,rfl⟩
            gi_wp2
            obtain ⟨w1,hw1⟩:∃ w1,grow (redrawn wr dq) osq=w1:=⟨_,rfl⟩
            have hJ1:J k w1:=by rw [← hw1];exact hJ _ _ _ hJi (grown_below (below_regrown wr dq osq))
            have f0:=k0 dq osq
            have f1:=k1 dq osq
            have f2:=k2 dq osq
            have f3:=k3 dq osq
            have f4:=k4 dq osq
            rw [hw1] at f0 f1 f2 f3 f4
            try (have hw1':=hw1;simp only [] at hw1';rw [hw1'])
            clear k0 k1 k2 k3 k4 d1 d2 d3 e1 e2 cQ
            have cQ:=cQ0 w1
            have k0:=cell_regrown f0
            have k1:=cell_regrown f1
            have k2:=cell_regrown f2
            have k3:=cell_regrown f3
            have k4:=cell_regrown f4
            refine wpIn_region_quiet_below rfl (by assumption) (by kernel_rfl) ?_
            repeat (refine wpQuietIn_step (fun _ _ _ _=>trivial) (fun K hK=>?_);go_simp;first | (refine hK _ ?_;clear hK K) | (apply Exists.intro;refine ⟨fun _=>?_,hK _ ?_⟩;(first | exact ⟨trivial,cQ _ _⟩ | exact cQ _ _);clear hK K))
            refine wpQuietIn_nil ?_
            rintro _ ⟨⟨dq,osq⟩,rfl⟩
            gi_wp2
            go_roundw
            case rel =>
              obtain ⟨q3,rfl⟩:∃ q3,q2=q3+1:=⟨q2 - 1,by omega⟩
              refine ⟨q3,m+1,_,?_,rfl,by omega,hlm,by omega,?_,hJ _ _ _ hJ1 (grown_below (below_regrown w1 dq osq))⟩
              · simp
              · rw [← hre,reachP,if_pos ⟨hlm,.inl rfl⟩]
                try rw [wrap_i64]
            case measure=>simp [intOf];omega
          · have hne:((m:Int) == (fr:Int))=false:=by simp;omega
            by_cases hle:Go.AE.gt cs m≤lf
            · gi_wp2
              refine wpIn_region_quiet_below rfl (by assumption) (by kernel_rfl) ?_
              repeat (refine wpQuietIn_step (fun _ _ _ _=>trivial) (fun K hK=>?_);go_simp;first | (refine hK _ ?_;clear hK K) | (apply Exists.intro;refine ⟨fun _=>?_,hK _ ?_⟩;(first | exact ⟨trivial,cQ _ _⟩ | exact cQ _ _);clear hK K))
              refine wpQuietIn_nil ?_
              rintro _ ⟨⟨dq,osq⟩,rfl⟩
              gi_wp2
              obtain ⟨w1,hw1⟩:∃ w1,grow (redrawn wr dq) osq=w1:=⟨_,rfl⟩
              have hJ1:J k w1:=by rw [← hw1];exact hJ _ _ _ hJi (grown_below (below_regrown wr dq osq))
              have f0:=k0 dq osq
              have f1:=k1 dq osq
              have f2:=k2 dq osq
              have f3:=k3 dq osq
              have f4:=k4 dq osq
              rw [hw1] at f0 f1 f2 f3 f4
              try (have hw1':=hw1;simp only [] at hw1';rw [hw1'])
              clear k0 k1 k2 k3 k4 d1 d2 d3 e1 e2 cQ
              have cQ:=cQ0 w1
              have k0:=cell_regrown f0
              have k1:=cell_regrown f1
              have k2:=cell_regrown f2
              have k3:=cell_regrown f3
              have k4:=cell_regrown f4
              refine wpIn_region_quiet_below rfl (by assumption) (by kernel_rfl) ?_
              repeat (refine wpQuietIn_step (fun _ _ _ _=>trivial) (fun K hK=>?_);go_simp;first | (refine hK _ ?_;clear hK K) | (apply Exists.intro;refine ⟨fun _=>?_,hK _ ?_⟩;(first | exact ⟨trivial,cQ _ _⟩ | exact cQ _ _);clear hK K))
              refine wpQuietIn_nil ?_
              rintro _ ⟨⟨dq,osq⟩,rfl⟩
              gi_wp2
              go_roundw
              case rel =>
                obtain ⟨q3,rfl⟩:∃ q3,q2=q3+1:=⟨q2 - 1,by omega⟩
                refine ⟨q3,m+1,_,?_,rfl,by omega,hlm,by omega,?_,hJ _ _ _ hJ1 (grown_below (below_regrown w1 dq osq))⟩
                · simp
                · rw [← hre,reachP,if_pos ⟨hlm,.inr hle⟩]
                  try rw [wrap_i64]
              case measure=>simp [intOf];omega
            · gi_wp2
              refine wpIn_region_quiet_below rfl (by assumption) (by kernel_rfl) ?_
              repeat (refine wpQuietIn_step (fun _ _ _ _=>trivial) (fun K hK=>?_);go_simp;first | (refine hK _ ?_;clear hK K) | (apply Exists.intro;refine ⟨fun _=>?_,hK _ ?_⟩;(first | exact ⟨trivial,cQ _ _⟩ | exact cQ _ _);clear hK K))
              refine wpQuietIn_nil ?_
              rintro _ ⟨⟨dq,osq⟩,rfl⟩
              have hT:reachP cs fr cs.length fr room=m:=by
                rw [← hre]
                cases q2 with
                | zero=>rfl
                | succ q3=>rw [reachP,if_neg (fun h=>h.2.elim hmf (fun h2=>by omega))]
              have hgt:fr < m:=by omega
              obtain ⟨q3,rfl⟩:∃ q3,q=q3+1:=⟨q - 1,by omega⟩
              rw [divF,if_pos hlt,hT] at hL
              have hx:(divP cs room)[k]? = some (fr,m):=by
                have:((divP cs room).drop k)[0]? = some (fr,m):=by rw [hL];rfl
                simpa using this
              have hk1:k < (divP cs room).length:=(List.getElem?_eq_some_iff.1 hx).1
              have hdr:(divP cs room).drop (k+1)=divF cs room q3 m:=by rw [← List.drop_drop,hL];rfl
              obtain ⟨w1,hw1⟩:∃ w1,grow (redrawn wr dq) osq=w1:=⟨_,rfl⟩
              have hJ1:J k w1:=by rw [← hw1];exact hJ _ _ _ hJi (grown_below (below_regrown wr dq osq))
              have f1:=k0 dq osq
              rw [hw1] at f1
              obtain ⟨fn,tmps,assign,body,hy,hR⟩:=hY k w1 (fr,m) hJ1 hx _ _ _ f1
              dsimp only at hy hR
              gi_wp2
              try (have hw1':=hw1;simp only [] at hw1';rw [hw1'])
              refine hR.mono ?_
              rintro e W3 (⟨rfl,hJ3⟩ | ⟨rfl,hJx3⟩)
              · gi_wp2
                go_roundw
                case rel=>exact ⟨k+1,q3,m,rfl,hm2,hk1,hdr,by omega,hJ3⟩
                case measure=>simp [intOf];omega
              · gi_wp2
                refine bodyPost_ret (results_none rfl _ _ _) rfl ?_
                exact ⟨⟨_,rfl⟩,.inr hJx3⟩
        · clear dcell
          have k0:=cell_regrown d1
          have k1:=cell_regrown d2
          have k2:=cell_regrown d3
          gi_wp2
          refine wpIn_region_quiet_below rfl (by assumption) (by kernel_rfl) ?_
          repeat (refine wpQuietIn_step (fun _ _ _ _=>trivial) (fun K hK=>?_);go_simp;first | (refine hK _ ?_;clear hK K) | (apply Exists.intro;refine ⟨fun _=>?_,hK _ ?_⟩;skip;clear hK K))
          refine wpQuietIn_nil ?_
          rintro _ ⟨⟨dq,osq⟩,rfl⟩
          have hT:reachP cs fr cs.length fr room=m:=by
            rw [← hre]
            cases q2 with
            | zero=>rfl
            | succ q3=>rw [reachP,if_neg (fun h=>hlm h.1)]
          have hgt:fr < m:=by omega
          obtain ⟨q3,rfl⟩:∃ q3,q=q3+1:=⟨q - 1,by omega⟩
          rw [divF,if_pos hlt,hT] at hL
          have hx:(divP cs room)[k]? = some (fr,m):=by
            have:((divP cs room).drop k)[0]? = some (fr,m):=by rw [hL];rfl
            simpa using this
          have hk1:k < (divP cs room).length:=(List.getElem?_eq_some_iff.1 hx).1
          have hdr:(divP cs room).drop (k+1)=divF cs room q3 m:=by rw [← List.drop_drop,hL];rfl
          obtain ⟨w1,hw1⟩:∃ w1,grow (redrawn wr dq) osq=w1:=⟨_,rfl⟩
          have hJ1:J k w1:=by rw [← hw1];exact hJ _ _ _ hJi (grown_below (below_regrown wr dq osq))
          have f1:=k0 dq osq
          rw [hw1] at f1
          obtain ⟨fn,tmps,assign,body,hy,hR⟩:=hY k w1 (fr,m) hJ1 hx _ _ _ f1
          dsimp only at hy hR
          gi_wp2
          try (have hw1':=hw1;simp only [] at hw1';rw [hw1'])
          refine hR.mono ?_
          rintro e W3 (⟨rfl,hJ3⟩ | ⟨rfl,hJx3⟩)
          · gi_wp2
            go_roundw
            case rel=>exact ⟨k+1,q3,m,rfl,hm2,hk1,hdr,by omega,hJ3⟩
            case measure=>simp [intOf];omega
          · gi_wp2
            refine bodyPost_ret (results_none rfl _ _ _) rfl ?_
            exact ⟨⟨_,rfl⟩,.inr hJx3⟩
    · obtain rfl:fr=cs.length:=by omega
      gi_wp2
      go_end0
      have hnil:(divP cs room).drop k=[]:=by
        rw [hL]
        cases q with
        | zero=>rfl
        | succ q=>rw [divF,if_neg (by omega)]
      have hk2:k=(divP cs room).length:=by
        have:=List.drop_eq_nil_iff.1 hnil
        omega
      exact ⟨⟨_,rfl⟩,.inl (hk2 ▸ hJk)⟩
set_option maxHeartbeats 8000000 in
theorem walk71 (l b1 b2 b3:Nat) (cs:List Int) (room:Int) (hbig:cs.length≤140737488355328) (J:Nat→World→Prop) (Jx:World→Prop)
    (hJ:∀ k A B,J k A→A.grownBy B none→J k B)
    (hV:∀ k A,J k A→∃ ao cap,A.cell? ⟨b1,0,none⟩=some (.slice ao cs.length cap)∧A.cell? ⟨b2,0,none⟩=some (.int .i64 room)∧A.cell? ⟨b3,0,none⟩=some (.func (.func 49) #[] #[])∧cs.length≤cap ∧
      (0 < cs.length→∃ b off,ao=some ⟨b,off,none⟩∧∀ j,j < cs.length→∃ r ka kl kc da dl dc bad,A.cell? ⟨b,off+j * 4,none⟩=some (.int .i64 r)∧A.cell? ⟨b,off+j * 4+1,none⟩=some (.slice ka kl kc)∧A.cell? ⟨b,off+j * 4+2,none⟩=some (.slice da dl dc)∧A.cell? ⟨b,off+j * 4+3,none⟩=some (.bool bad)∧sz49 kl dl=Go.AE.gt cs j))
    (hY:∀ k W1 x,J k W1→(divP cs room)[k]? = some x→∀ cap b off,W1.cell? ⟨b1,0,none⟩=some (.slice (some ⟨b,off,none⟩) cs.length cap) →
      YieldAt Fence.wide 7 Try.prog l #[.int .i64 (x.1:Int),.slice (some ⟨b,off+x.1 * 4,none⟩) (x.2 - x.1) (cap - x.1)] W1 fun e W'=>(e = .returned (.bool true)∧J (k+1) W')∨(e = .returned (.bool false)∧Jx W'))
    (W:World) (h0:J 0 W):CallsIn Fence.wide 8 Try.prog 71 (#[.func (.yield l) #[] #[]] ++ #[.pointer (some ⟨b1,0,none⟩),.pointer (some ⟨b2,0,none⟩),.pointer (some ⟨b3,0,none⟩)]) W fun e W'=>(∃ v,e = .returned v)∧(J (divP cs room).length W'∨Jx W'):=by
  have hmix:=mixed
  refine callsIn_of_wp Try.func71 rfl trivial ?_ rfl
  simp only [Try.ntmps71,List.size_toArray,List.length_cons,List.length_nil,Nat.reduceAdd,Nat.reduceSub,Array.replicate_succ,Array.replicate_zero,List.push_toArray,List.append_toArray,List.nil_append,List.cons_append]
  gi_wp2
  gi_loopw [5] (fun f wr=>∃ k q fr:Nat,f = .int .i64 fr∧fr≤cs.length∧k≤(divP cs room).length∧(divP cs room).drop k=divF cs room q fr∧cs.length≤q+fr∧J k wr)
    (fun f _=>cs.length - (intOf f).toNat)
  case atStart=>exact ⟨0,cs.length,0,rfl,Nat.zero_le _,Nat.zero_le _,rfl,Nat.le_refl _,h0⟩
  case round =>
    obtain ⟨k,q,fr,rfl,hfr,hk,hL,hq,hJk⟩:=hrel
    obtain ⟨ao,cap,hc1,hc2,hc3,hcap,hcell0⟩:=hV k wr hJk
    by_cases hlt:fr < cs.length
    · obtain ⟨b,off,rfl,hcell⟩:=hcell0 (by omega)
      clear hcell hcell0
      gi_wp2
      gi_region
      gi_wp2
      gi_loopw [6,7] (fun t f wi=>∃ (q2 m:Nat) (lf:Int),t = .int .i64 m∧f = .int .i64 lf∧fr≤m∧m≤cs.length∧cs.length≤q2+m∧reachP cs fr q2 m lf=reachP cs fr cs.length fr room∧J k wi)
        (fun t _ _=>cs.length - (intOf t).toNat)
      case atStart=>exact ⟨cs.length,fr,room,rfl,rfl,Nat.le_refl _,hfr,by omega,rfl,hJ _ _ _ hJk (grown_drew _)⟩
      case round =>
        obtain ⟨q2,m,lf,rfl,rfl,hm1,hm2,hq2,hre,hJi⟩:=hrel
        clear hc1 hc2 hc3 hJk
        obtain ⟨ao2,cap2,d1,d2,d3,dcap,dcell0⟩:=hV k _ hJi
        obtain ⟨c2,o2,rfl,dcell⟩:=dcell0 (by omega)
        clear dcell0
        by_cases hlm:m < cs.length
        · obtain ⟨r,ka,kl,kc,da,dl,dc,bad,e1,e2,e4,e5,e3⟩:=dcell m hlm
          have cQ0:=fun w=>size49_in r ka kl kc da dl dc bad _ e3 w
          have cQ:=cQ0 wr
          have k0:=cell_regrown d1
          have k1:=cell_regrown d2
          have k2:=cell_regrown d3
          have k3:=cell_regrown e1
          have k4:=cell_regrown e2
          have k5:=cell_regrown e4
          have k6:=cell_regrown e5
          by_cases hmf:m=fr
          · subst hmf
            gi_wp2
            refine wpIn_region_quiet_below rfl (by assumption) (by kernel_rfl) ?_
            repeat (refine wpQuietIn_step (fun _ _ _ _=>trivial) (fun K hK=>?_);go_simp;first | (refine hK _ ?_;clear hK K) | (apply Exists.intro;refine ⟨fun _=>?_,hK _ ?_⟩;(first | exact ⟨trivial,cQ _ _⟩ | exact cQ _ _);clear hK K))
            refine wpQuietIn_nil ?_
            rintro _ ⟨⟨dq,osq⟩,rfl⟩
            gi_wp2
            obtain ⟨w1,hw1⟩:∃ w1,grow (redrawn wr dq) osq=w1:=⟨_,rfl⟩
            have hJ1:J k w1:=by rw [← hw1];exact hJ _ _ _ hJi (grown_below (below_regrown wr dq osq))
            have f0:=k0 dq osq
            have f1:=k1 dq osq
            have f2:=k2 dq osq
            have f3:=k3 dq osq
            have f4:=k4 dq osq
            have f5:=k5 dq osq
            have f6:=k6 dq osq
            rw [hw1] at f0 f1 f2 f3 f4 f5 f6
            try (have hw1':=hw1;simp only [] at hw1';rw [hw1'])
            clear k0 k1 k2 k3 k4 k5 k6 d1 d2 d3 e1 e2 e4 e5 cQ
            have cQ:=cQ0 w1
            have k0:=cell_regrown f0
            have k1:=cell_regrown f1
            have k2:=cell_regrown f2
            have k3:=cell_regrown f3
            have k4:=cell_regrown f4
            have k5:=cell_regrown f5
            have k6:=cell_regrown f6
            refine wpIn_region_quiet_below rfl (by assumption) (by kernel_rfl) ?_
            repeat (refine wpQuietIn_step (fun _ _ _ _=>trivial) (fun K hK=>?_);go_simp;first | (refine hK _ ?_;clear hK K) | (apply Exists.intro;refine ⟨fun _=>?_,hK _ ?_⟩;(first | exact ⟨trivial,cQ _ _⟩ | exact cQ _ _);clear hK K))
            refine wpQuietIn_nil ?_
            rintro _ ⟨⟨dq,osq⟩,rfl⟩
            gi_wp2
            go_roundw
            case rel =>
              obtain ⟨q3,rfl⟩:∃ q3,q2=q3+1:=⟨q2 - 1,by omega⟩
              refine ⟨q3,m+1,_,?_,rfl,by omega,hlm,by omega,?_,hJ _ _ _ hJ1 (grown_below (below_regrown w1 dq osq))⟩
              · simp
              · rw [← hre,reachP,if_pos ⟨hlm,.inl rfl⟩]
                try rw [wrap_i64]
            case measure=>simp [intOf];omega
          · have hne:((m:Int) == (fr:Int))=false:=by simp;omega
            by_cases hle:Go.AE.gt cs m≤lf
            · gi_wp2
              refine wpIn_region_quiet_below rfl (by assumption) (by kernel_rfl) ?_
              repeat (refine wpQuietIn_step (fun _ _ _ _=>trivial) (fun K hK=>?_);go_simp;first | (refine hK _ ?_;clear hK K) | (apply Exists.intro;refine ⟨fun _=>?_,hK _ ?_⟩;(first | exact ⟨trivial,cQ _ _⟩ | exact cQ _ _);clear hK K))
              refine wpQuietIn_nil ?_
              rintro _ ⟨⟨dq,osq⟩,rfl⟩
              gi_wp2
              obtain ⟨w1,hw1⟩:∃ w1,grow (redrawn wr dq) osq=w1:=⟨_,rfl⟩
              have hJ1:J k w1:=by rw [← hw1];exact hJ _ _ _ hJi (grown_below (below_regrown wr dq osq))
              have f0:=k0 dq osq
              have f1:=k1 dq osq
              have f2:=k2 dq osq
              have f3:=k3 dq osq
              have f4:=k4 dq osq
              have f5:=k5 dq osq
              have f6:=k6 dq osq
              rw [hw1] at f0 f1 f2 f3 f4 f5 f6
              try (have hw1':=hw1;simp only [] at hw1';rw [hw1'])
              clear k0 k1 k2 k3 k4 k5 k6 d1 d2 d3 e1 e2 e4 e5 cQ
              have cQ:=cQ0 w1
              have k0:=cell_regrown f0
              have k1:=cell_regrown f1
              have k2:=cell_regrown f2
              have k3:=cell_regrown f3
              have k4:=cell_regrown f4
              have k5:=cell_regrown f5
              have k6:=cell_regrown f6
              refine wpIn_region_quiet_below rfl (by assumption) (by kernel_rfl) ?_
              repeat (refine wpQuietIn_step (fun _ _ _ _=>trivial) (fun K hK=>?_);go_simp;first | (refine hK _ ?_;clear hK K) | (apply Exists.intro;refine ⟨fun _=>?_,hK _ ?_⟩;(first | exact ⟨trivial,cQ _ _⟩ | exact cQ _ _);clear hK K))
              refine wpQuietIn_nil ?_
              rintro _ ⟨⟨dq,osq⟩,rfl⟩
              gi_wp2
              go_roundw
              case rel =>
                obtain ⟨q3,rfl⟩:∃ q3,q2=q3+1:=⟨q2 - 1,by omega⟩
                refine ⟨q3,m+1,_,?_,rfl,by omega,hlm,by omega,?_,hJ _ _ _ hJ1 (grown_below (below_regrown w1 dq osq))⟩
                · simp
                · rw [← hre,reachP,if_pos ⟨hlm,.inr hle⟩]
                  try rw [wrap_i64]
              case measure=>simp [intOf];omega
            · gi_wp2
              refine wpIn_region_quiet_below rfl (by assumption) (by kernel_rfl) ?_
              repeat (refine wpQuietIn_step (fun _ _ _ _=>trivial) (fun K hK=>?_);go_simp;first | (refine hK _ ?_;clear hK K) | (apply Exists.intro;refine ⟨fun _=>?_,hK _ ?_⟩;(first | exact ⟨trivial,cQ _ _⟩ | exact cQ _ _);clear hK K))
              refine wpQuietIn_nil ?_
              rintro _ ⟨⟨dq,osq⟩,rfl⟩
              have hT:reachP cs fr cs.length fr room=m:=by
                rw [← hre]
                cases q2 with
                | zero=>rfl
                | succ q3=>rw [reachP,if_neg (fun h=>h.2.elim hmf (fun h2=>by omega))]
              have hgt:fr < m:=by omega
              obtain ⟨q3,rfl⟩:∃ q3,q=q3+1:=⟨q - 1,by omega⟩
              rw [divF,if_pos hlt,hT] at hL
              have hx:(divP cs room)[k]? = some (fr,m):=by
                have:((divP cs room).drop k)[0]? = some (fr,m):=by rw [hL];rfl
                simpa using this
              have hk1:k < (divP cs room).length:=(List.getElem?_eq_some_iff.1 hx).1
              have hdr:(divP cs room).drop (k+1)=divF cs room q3 m:=by rw [← List.drop_drop,hL];rfl
              obtain ⟨w1,hw1⟩:∃ w1,grow (redrawn wr dq) osq=w1:=⟨_,rfl⟩
              have hJ1:J k w1:=by rw [← hw1];exact hJ _ _ _ hJi (grown_below (below_regrown wr dq osq))
              have f1:=k0 dq osq
              rw [hw1] at f1
              obtain ⟨fn,tmps,assign,body,hy,hR⟩:=hY k w1 (fr,m) hJ1 hx _ _ _ f1
              dsimp only at hy hR
              gi_wp2
              try (have hw1':=hw1;simp only [] at hw1';rw [hw1'])
              refine hR.mono ?_
              rintro e W3 (⟨rfl,hJ3⟩ | ⟨rfl,hJx3⟩)
              · gi_wp2
                go_roundw
                case rel=>exact ⟨k+1,q3,m,rfl,hm2,hk1,hdr,by omega,hJ3⟩
                case measure=>simp [intOf];omega
              · gi_wp2
                refine bodyPost_ret (results_none rfl _ _ _) rfl ?_
                exact ⟨⟨_,rfl⟩,.inr hJx3⟩
        · clear dcell
          have k0:=cell_regrown d1
          have k1:=cell_regrown d2
          have k2:=cell_regrown d3
          gi_wp2
          refine wpIn_region_quiet_below rfl (by assumption) (by kernel_rfl) ?_
          repeat (refine wpQuietIn_step (fun _ _ _ _=>trivial) (fun K hK=>?_);go_simp;first | (refine hK _ ?_;clear hK K) | (apply Exists.intro;refine ⟨fun _=>?_,hK _ ?_⟩;skip;clear hK K))
          refine wpQuietIn_nil ?_
          rintro _ ⟨⟨dq,osq⟩,rfl⟩
          have hT:reachP cs fr cs.length fr room=m:=by
            rw [← hre]
            cases q2 with
            | zero=>rfl
            | succ q3=>rw [reachP,if_neg (fun h=>hlm h.1)]
          have hgt:fr < m:=by omega
          obtain ⟨q3,rfl⟩:∃ q3,q=q3+1:=⟨q - 1,by omega⟩
          rw [divF,if_pos hlt,hT] at hL
          have hx:(divP cs room)[k]? = some (fr,m):=by
            have:((divP cs room).drop k)[0]? = some (fr,m):=by rw [hL];rfl
            simpa using this
          have hk1:k < (divP cs room).length:=(List.getElem?_eq_some_iff.1 hx).1
          have hdr:(divP cs room).drop (k+1)=divF cs room q3 m:=by rw [← List.drop_drop,hL];rfl
          obtain ⟨w1,hw1⟩:∃ w1,grow (redrawn wr dq) osq=w1:=⟨_,rfl⟩
          have hJ1:J k w1:=by rw [← hw1];exact hJ _ _ _ hJi (grown_below (below_regrown wr dq osq))
          have f1:=k0 dq osq
          rw [hw1] at f1
          obtain ⟨fn,tmps,assign,body,hy,hR⟩:=hY k w1 (fr,m) hJ1 hx _ _ _ f1
          dsimp only at hy hR
          gi_wp2
          try (have hw1':=hw1;simp only [] at hw1';rw [hw1'])
          refine hR.mono ?_
          rintro e W3 (⟨rfl,hJ3⟩ | ⟨rfl,hJx3⟩)
          · gi_wp2
            go_roundw
            case rel=>exact ⟨k+1,q3,m,rfl,hm2,hk1,hdr,by omega,hJ3⟩
            case measure=>simp [intOf];omega
          · gi_wp2
            refine bodyPost_ret (results_none rfl _ _ _) rfl ?_
            exact ⟨⟨_,rfl⟩,.inr hJx3⟩
    · obtain rfl:fr=cs.length:=by omega
      gi_wp2
      go_end0
      have hnil:(divP cs room).drop k=[]:=by
        rw [hL]
        cases q with
        | zero=>rfl
        | succ q=>rw [divF,if_neg (by omega)]
      have hk2:k=(divP cs room).length:=by
        have:=List.drop_eq_nil_iff.1 hnil
        omega
      exact ⟨⟨_,rfl⟩,.inl (hk2 ▸ hJk)⟩
end Go.Proofs.Ytkebegfopnlkhaa
/-
  ch. 39: the iterators of spool.divide, in the evaluator's words.
-/
set_option maxRecDepth 100000
namespace Go.Proofs.Ytkebegfopnlkhaa
open Go.RowKit Go.Shelf Go.Proofs Go.Sort
open Go.AE in
def szLine (x:TLine):Int:=wrap64 (2+(x.Text.length:Int))
def szRec (x:TRec):Int:=sz49 x.Key.length x.Data.length
theorem gtl {α:Type} [Inhabited α] {l:List α} {k:Nat} (h:k < l.length):Go.AE.gt l k=l[k]:=by
  simp [Go.AE.gt,List.getD_eq_getElem?_getD,h]
theorem divF_mem (cs:List Int) (room:Int):∀ (q fr k:Nat) (x:Nat×Nat),(divF cs room q fr)[k]? = some x→x.1 < x.2∧x.2≤cs.length
  | 0,fr,k,x,h=>by simp [divF] at h
  | q+1,fr,k,x,h=>by
    unfold divF at h
    split at h
    · rename_i hlt
      cases k with
      | zero =>
        simp only [List.getElem?_cons_zero,Option.some.injEq] at h
        subst h
        obtain ⟨n,hn⟩:∃ n,cs.length=n+1:=⟨cs.length - 1,by omega⟩
        refine ⟨?_,reachP_le cs fr cs.length fr room (by omega)⟩
        have:=reachP_gt cs fr n room hlt
        rw [← hn] at this
        exact this
      | succ k =>
        simp only [List.getElem?_cons_succ] at h
        exact divF_mem cs room q _ k x h
    · simp at h
theorem cell_box {w:World} {b:Nat} {vs:Array Value} {t:TypeId} (h:w.heap[b]? = some (.cells vs t (0,0))) {j:Nat} (hj:j < vs.size):w.cell? ⟨b,j,none⟩=some (vs.getD j undef):=by
  unfold World.cell?
  simp [h,hj,Array.getD]
open Go.AE in
theorem box_view {P:Program} {wI:Base} {N:Nat} {σ:Nat→RefI} {hp:Nat→Blk} {tm:Nat→A} {tms:Array Value} {W:World} (hR:RelL P wI N σ ⟨tm,hp⟩ tms W) {i b:Nat} {a:A} (hb:σ i = .box b) (hh:hp i = .box [a]) :
    ∃ v,W.cell? ⟨b,0,none⟩=some v∧ARel P W (Al wI W σ hp) σ v a:=by
  have h:=hR.blks i
  rw [show (⟨tm,hp⟩:S).hp i = .box [a] from hh] at h
  obtain ⟨b',vs,t,hr,hB,hw,hl,hc⟩:=h
  rw [hb] at hr
  cases hr
  have hl1:vs.size=1:=hl
  exact ⟨_,cell_box hw (by omega),hc 0 (by simp)⟩
open Go.AE in
set_option maxHeartbeats 1000000 in
theorem iter69R (i1 i2 i3 rid:Nat) (ls:List TLine) (room:Int) :
    IterA Try.prog 69 [.box i1 0,.box i2 0,.box i3 0] (fun hp=>hp i1 = .box [.rg rid (.slice 48) (.slice (List.map e_TLine ls))]∧hp i2 = .box [.c (.int .i64) (.int room)]∧hp i3 = .box [.fnv 46 []]∧hp rid = .reg)
      ((divP (List.map szLine ls) room).map fun e=>[.c (.int .i64) (.int (e.1:Int)),.rg rid (.slice 48) (.slice (List.map e_TLine (List.take (e.2 - e.1) (List.drop e.1 ls))))]):=by
  refine ⟨fun args w=>by exact Try.call69 args w,fun wI N tms vs w hvl l J Jx W hW hG hJ hJx hY h0=>?_⟩
  obtain ⟨d0,h0⟩:=h0
  obtain ⟨v1,v2,v3,rfl⟩:=list3 hvl
  have g0:=hG 0 d0 W h0
  have ptr:∀ (v:Value) (i:Nat) (w:World) (al:Nat→Prop) (σ:Nat→RefI),ARel Try.prog w al σ v (.box i 0)→∃ b,v = .pointer (some ⟨b,0,none⟩)∧σ i = .box b:=by
    intro v i w al σ h
    cases h with
    | box id off b h=>exact ⟨b,rfl,h⟩
  obtain ⟨b1,rfl,_⟩:=ptr _ _ _ _ _ (g0.2.2 0 (by simp))
  obtain ⟨b2,rfl,_⟩:=ptr _ _ _ _ _ (g0.2.2 1 (by simp))
  obtain ⟨b3,rfl,_⟩:=ptr _ _ _ _ _ (g0.2.2 2 (by simp))
  have sig:∀ k d A,J k d A→d.2 i1 = .box b1∧d.2 i2 = .box b2∧d.2 i3 = .box b3:=by
    intro k d A h
    have g:=(hG k d A h).2.2
    obtain ⟨c1,e1,h1⟩:=ptr _ _ _ _ _ (g 0 (by simp))
    obtain ⟨c2,e2,h2⟩:=ptr _ _ _ _ _ (g 1 (by simp))
    obtain ⟨c3,e3,h3⟩:=ptr _ _ _ _ _ (g 2 (by simp))
    simp at e1 e2 e3
    subst e1 e2 e3
    exact ⟨h1,h2,h3⟩
  have hrep:∀ k d A,J k d A→∃ v Wr Qr,A.cell? ⟨b1,0,none⟩=some v∧d.2 rid = .reg Wr Qr∧RepC Try.prog Wr Qr (.slice 48) v (.slice (List.map e_TLine ls))∧RepC Try.prog A Qr (.slice 48) v (.slice (List.map e_TLine ls)):=by
    intro k d A h
    obtain ⟨hR,⟨o1,o2,o3,o4⟩,_⟩:=hG k d A h
    obtain ⟨v,hv,ha⟩:=box_view hR (sig k d A h).1 o1
    obtain ⟨Wr,Qr,q1,q2,q3⟩:=reg_spec (r:=rid) hR (by show isRegB (d.1 rid)=true;rw [o4];rfl)
    refine ⟨v,Wr,Qr,hv,q1,?_⟩
    cases ha with
    | rgGone _ _ _ _ hg=>rw [q1] at hg;cases hg
    | rg _ _ _ _ W1 Q1 hσ hr =>
      rw [q1] at hσ;cases hσ
      exact ⟨hr,hr.mono q3 (fun b hb=>hb)⟩
  have hlenE:(List.map e_TLine ls).length=(List.map szLine ls).length:=by simp
  have hbig:(List.map szLine ls).length≤140737488355328:=by
    obtain ⟨v,_,_,_,_,hr,_⟩:=hrep 0 d0 W h0
    rw [← hlenE]
    cases hr with
    | empty _ _ _ _ h _=>simp only [C.toSl_slice] at h;rw [h];simp
    | slice _ _ _ _ _ _ _ _ _ hl=>exact hl
  have hlen:(divP (List.map szLine ls) room).length=((divP (List.map szLine ls) room).map fun e=>([.c (.int .i64) (.int (e.1:Int)),.rg rid (.slice 48) (.slice (List.map e_TLine (List.take (e.2 - e.1) (List.drop e.1 ls))))]:List A)).length:=by simp
  rw [← hlen]
  refine (walk69 l b1 b2 b3 (List.map szLine ls) room hbig (fun k A=>∃ d,J k d A) (fun A=>∃ k,k < (divP (List.map szLine ls) room).length∧Jx k A) (fun k A B ⟨d,h⟩ hg=>⟨d,hJ k d A B h hg⟩) ?_ ?_ W ⟨d0,h0⟩)
  · rintro k A ⟨d,h⟩
    obtain ⟨hR,⟨o1,o2,o3,o4⟩,_⟩:=hG k d A h
    obtain ⟨s1,s2,s3⟩:=sig k d A h
    obtain ⟨v,Wr,Qr,hv,hrid,_,hr⟩:=hrep k d A h
    obtain ⟨u2,hu2,ha2⟩:=box_view hR s2 o2
    obtain ⟨u3,hu3,ha3⟩:=box_view hR s3 o3
    have e2:u2 = .int .i64 room:=by
      cases ha2 with
      | c _ _ _ h=>cases h with | int _ _ _=>rfl
    have e3:u3 = .func (.func 46) #[] #[]:=by
      cases ha3 with
      | fnv _ _ vs hl hh =>
        have:vs=[]:=List.eq_nil_of_length_eq_zero (by simpa using hl)
        subst this;rfl
    subst e2 e3
    cases hr with
    | empty _ _ a cap h _ =>
      simp only [C.toSl_slice] at h
      have h0:(List.map szLine ls).length=0:=by rw [← hlenE,h];rfl
      rw [h0]
      exact ⟨a,cap,hv,hu2,hu3,Nat.zero_le _,fun h=>absurd h (by omega)⟩
    | slice _ _ b off cap _ E hE hal hl hcap hel f hcell hrp =>
      simp only [C.toSl_slice] at hv hl hcap hel hcell hrp
      rw [ty48] at hE
      simp only [Option.some.injEq] at hE
      subst hE
      rw [hlenE] at hv hcap
      refine ⟨_,cap,hv,hu2,hu3,hcap,fun _=>⟨b,off,rfl,fun j hj=>?_⟩⟩
      have hj':j < (List.map e_TLine ls).length:=by rw [hlenE];exact hj
      have c0:=cellN_cell (hcell j hj' 0 (by decide))
      have c1:=cellN_cell (hcell j hj' 1 (by decide))
      have r0:=hrp j hj' 0 (by decide)
      have r1:=hrp j hj' 1 (by decide)
      simp only [List.length_cons,List.length_nil,Nat.zero_add,Nat.reduceAdd,Nat.add_zero,List.getD_cons_zero,List.getD_cons_succ] at c0 c1 r0 r1
      revert c0 c1
      revert r0 r1
      generalize f j 0=x0
      generalize f j 1=x1
      intro r0 r1 c0 c1
      cases r0
      cases r1
      refine ⟨_,_,c0,by rw [← c1];congr 1,?_⟩
      have hjl:j < ls.length:=by simpa using hj
      rw [gtl (l:=List.map szLine ls) hj,cg_TLine_1]
      simp [szLine,gtl hjl,ByteArray.size]
  · rintro k W1 x ⟨d,h⟩ hx cap b off hcellb
    have hk:k < (divP (List.map szLine ls) room).length:=(List.getElem?_eq_some_iff.1 hx).1
    obtain ⟨hx1,hx2⟩:=divF_mem _ _ _ _ _ _ hx
    obtain ⟨v,Wr,Qr,hv,hrid,hr,_⟩:=hrep k d W1 h
    rw [hcellb] at hv
    cases hv
    have hY2:=hY k d W1 #[.int .i64 (x.1:Int),.slice (some ⟨b,off+x.1 * 2,none⟩) (x.2 - x.1) (cap - x.1)] (by simpa using hk) h ?hv
    · obtain ⟨fn,tmps,assign,body,hy,hR⟩:=hY2
      refine ⟨fn,tmps,assign,body,hy,hR.mono ?_⟩
      rintro e W' (⟨rfl,d',h'⟩ | ⟨rfl,h'⟩)
      · exact .inl ⟨rfl,d',h'⟩
      · exact .inr ⟨rfl,k,hk,h'⟩
    case hv =>
      have hyk:((divP (List.map szLine ls) room).map fun e=>([.c (.int .i64) (.int (e.1:Int)),.rg rid (.slice 48) (.slice (List.map e_TLine (List.take (e.2 - e.1) (List.drop e.1 ls))))]:List A)).getD k []=[.c (.int .i64) (.int (x.1:Int)),.rg rid (.slice 48) (.slice (List.map e_TLine (List.take (x.2 - x.1) (List.drop x.1 ls))))]:=by
        simp [List.getD_eq_getElem?_getD,hx]
      dsimp only
      rw [hyk]
      have hn:(List.map szLine ls).length=ls.length:=by simp
      refine ⟨rfl,fun j hj=>?_⟩
      match j,hj with
      | 0,_=>exact .c _ _ _ (.int .i64 (.int (x.1:Int)) (by
          have h3:IntKind.i64.min = -9223372036854775808:=by decide
          have h4:IntKind.i64.max=9223372036854775807:=by decide
          simp only [InR,C.toInt_int,h3,h4];omega))
      | 1,_ =>
        refine .rg _ _ _ _ Wr Qr hrid ?_
        generalize hn0:(List.map szLine ls).length=n0 at hr
        cases hr with
        | empty _ _ _ _ h _=>omega
        | slice _ _ _ _ _ _ E hE hal hl hcap hel f hcell hrp =>
          simp only [C.toSl_slice] at hl hcap hel hcell hrp
          rw [ty48] at hE
          simp only [Option.some.injEq] at hE
          subst hE
          have hls:(List.map e_TLine (List.take (x.2 - x.1) (List.drop x.1 ls))).length=x.2 - x.1:=by simp;omega
          have he:∀ i,i < x.2 - x.1→eg (List.map e_TLine (List.take (x.2 - x.1) (List.drop x.1 ls))) i=eg (List.map e_TLine ls) (x.1+i):=by
            intro i hi
            simp [eg,List.getD_eq_getElem?_getD,hi]
          have:=RepC.slice (P:=Try.prog) (w:=Wr) (Al:=Qr) 48 (.slice (List.map e_TLine (List.take (x.2 - x.1) (List.drop x.1 ls)))) b (off+x.1 * 2) (cap - x.1) (by simp) _ ty48 hal (by simp only [C.toSl_slice,hls];omega) (by simp only [C.toSl_slice,hls];rw [List.length_map] at hcap;omega)
            (fun i hi=>by simp only [C.toSl_slice,hls] at hi ⊢;rw [he i hi];exact hel _ (by rw [List.length_map];omega)) (fun i j=>f (x.1+i) j)
            (fun i hi j hj=>by
              simp only [C.toSl_slice,hls] at hi
              have:=hcell (x.1+i) (by rw [List.length_map];omega) j hj
              rw [← this]
              congr 2
              simp only [List.length_cons,List.length_nil];omega)
            (fun i hi j hj=>by simp only [C.toSl_slice,hls] at hi ⊢;rw [he i hi];exact hrp _ (by rw [List.length_map];omega) j hj)
          simp only [C.toSl_slice,hls] at this
          exact this
open Go.AE in
theorem own_view {P:Program} {wI:Base} {N:Nat} {σ:Nat→RefI} {hp:Nat→Blk} {tm:Nat→A} {tms:Array Value} {W:World} (hR:RelL P wI N σ ⟨tm,hp⟩ tms W) {id:Nat} {ks:List Kd} {t:TypeId} {es:List (List C)} {v:Value} (h:ARel P W (Al wI W σ hp) σ v (.own id ks 0 es.length)) (hh:hp id = .row t es) :
    (es=[]∧v = .slice none 0 0)∨∃ b cap cur tg E,tyI P t=some E∧σ id = .row b cap t E.kinds es.length∧v = .slice (some ⟨b,0,none⟩) es.length cap∧W.heap[b]? = some (.cells cur tg (0,0))∧es.length≤cap∧cur.size=cap * E.kinds.length∧(es.length:Int)≤140737488355328 ∧
      (∀ i,i < es.length→(eg es i).length=E.kinds.length)∧(∀ i,i < es.length→∀ j,j < E.kinds.length→RepC P W (Al wI W σ hp) (E.kinds.getD j .other) (cur.getD (i * E.kinds.length+j) undef) (cg (eg es i) j)):=by
  have hb:=hR.blks id
  rw [show (⟨tm,hp⟩:S).hp id = .row t es from hh] at hb
  obtain ⟨E,hE,hby,hr⟩:=hb
  obtain ⟨St⟩:=tyI_spec hE
  have hpos:=St.pos
  rcases hr with ⟨hr,he⟩ | ⟨b,cap,cur,tg,hr,hB,hw,h1,h2,h3,h4,h5⟩
  · subst he
    left
    refine ⟨rfl,?_⟩
    cases h with
    | ownGone _ _ _ _ _ h=>rw [hr] at h;cases h
    | ownNil _ _ _ _ h ho=>rfl
    | own0 _ _ _ _ _ _ _ h _=>rw [hr] at h;cases h
    | ownOff _ _ _ _ _ _ _ _ _ h ho=>exact absurd rfl ho
    | ownOff0 _ _ _ _ _ _ _ _ _ h ho=>exact absurd rfl ho
  · have hlen:(es.length:Int)≤140737488355328:=by
      have:(es.length:Int) * 1≤(es.length:Int) * E.bytes:=Int.mul_le_mul_of_nonneg_left (by omega) (by omega)
      omega
    right
    refine ⟨b,cap,cur,tg,E,hE,hr,?_,hw,h1,h3,hlen,h4,h5⟩
    revert h
    generalize hn:es.length=n
    intro h
    cases h with
    | ownGone _ _ _ _ _ h=>rw [hr] at h;cases h
    | ownNil _ _ _ _ h ho=>rw [hr] at h;cases h
    | own0 _ _ _ _ _ _ _ h _=>rw [hr] at h;cases h;rfl
    | ownOff _ _ _ _ _ _ _ _ _ h ho=>exact absurd rfl ho
    | ownOff0 _ _ _ _ _ _ _ _ _ h ho=>exact absurd rfl ho
open Go.AE in
set_option maxHeartbeats 1000000 in
theorem iter71 (i1 i2 i3 i4:Nat) (cs:List Int) (room:Int) :
    IterA Try.prog 71 [.box i1 0,.box i2 0,.box i3 0] (fun hp=>hp i2 = .box [.c (.int .i64) (.int room)]∧hp i3 = .box [.fnv 49 []]∧∃ recs:List TRec,hp i1 = .box [.own i4 [.int .i64,.slice 5,.slice 5,.bool] 0 recs.length]∧hp i4 = .row 59 (List.map e_TRec recs)∧List.map szRec recs=cs)
      ((divP cs room).map fun e=>[.c (.int .i64) (.int (e.1:Int)),.own i4 [.int .i64,.slice 5,.slice 5,.bool] e.1 (e.2 - e.1)]):=by
  refine ⟨fun args w=>by exact Try.call71 args w,fun wI N tms vs w hvl l J Jx W hW hG hJ hJx hY h0=>?_⟩
  obtain ⟨d0,h0⟩:=h0
  obtain ⟨v1,v2,v3,rfl⟩:=list3 hvl
  have g0:=hG 0 d0 W h0
  have ptr:∀ (v:Value) (i:Nat) (w:World) (al:Nat→Prop) (σ:Nat→RefI),ARel Try.prog w al σ v (.box i 0)→∃ b,v = .pointer (some ⟨b,0,none⟩)∧σ i = .box b:=by
    intro v i w al σ h
    cases h with
    | box id off b h=>exact ⟨b,rfl,h⟩
  obtain ⟨b1,rfl,_⟩:=ptr _ _ _ _ _ (g0.2.2 0 (by simp))
  obtain ⟨b2,rfl,_⟩:=ptr _ _ _ _ _ (g0.2.2 1 (by simp))
  obtain ⟨b3,rfl,_⟩:=ptr _ _ _ _ _ (g0.2.2 2 (by simp))
  have sig:∀ k d A,J k d A→d.2 i1 = .box b1∧d.2 i2 = .box b2∧d.2 i3 = .box b3:=by
    intro k d A h
    have g:=(hG k d A h).2.2
    obtain ⟨c1,e1,h1⟩:=ptr _ _ _ _ _ (g 0 (by simp))
    obtain ⟨c2,e2,h2⟩:=ptr _ _ _ _ _ (g 1 (by simp))
    obtain ⟨c3,e3,h3⟩:=ptr _ _ _ _ _ (g 2 (by simp))
    simp at e1 e2 e3
    subst e1 e2 e3
    exact ⟨h1,h2,h3⟩
  have hrow:∀ k d A,J k d A→∃ v,A.cell? ⟨b1,0,none⟩=some v∧((cs=[]∧v = .slice none 0 0)∨∃ b cap cur tg,∃ recs:List TRec,List.map szRec recs=cs∧d.2 i4 = .row b cap 59 [.int .i64,.slice 5,.slice 5,.bool] cs.length∧v = .slice (some ⟨b,0,none⟩) cs.length cap∧A.heap[b]? = some (.cells cur tg (0,0))∧cs.length≤cap∧cur.size=cap * 4∧(cs.length:Int)≤140737488355328 ∧
      (∀ i,i < cs.length→∀ j,j < 4→RepC Try.prog A (Al wI A d.2 d.1) (([.int .i64,.slice 5,.slice 5,.bool]:List Kd).getD j .other) (cur.getD (i * 4+j) undef) (cg (eg (List.map e_TRec recs) i) j))):=by
    intro k d A h
    obtain ⟨hR,⟨o2,o3,recs,o1,o4,hc⟩,_⟩:=hG k d A h
    obtain ⟨v,hv,ha⟩:=box_view hR (sig k d A h).1 o1
    refine ⟨v,hv,?_⟩
    have e1:recs.length=(List.map e_TRec recs).length:=by simp
    rw [e1] at ha
    have e2:(List.map e_TRec recs).length=cs.length:=by rw [← hc];simp
    rcases own_view hR ha o4 with ⟨h1,h2⟩ | ⟨b,cap,cur,tg,E,hE,h1,h2,h3,h4,h5,h6,h7,h8⟩
    · left
      rw [List.map_eq_nil_iff] at h1
      subst h1
      exact ⟨hc.symm,h2⟩
    · right
      rw [ty59] at hE
      simp only [Option.some.injEq] at hE
      subst hE
      rw [e2] at h1 h2 h4 h6 h8
      exact ⟨b,cap,cur,tg,recs,hc,h1,h2,h3,h4,h5,h6,h8⟩
  have hbig:cs.length≤140737488355328:=by
    obtain ⟨v,_,⟨h,_⟩ | ⟨b,cap,cur,tg,recs,_,_,_,_,_,_,h,_⟩⟩:=hrow 0 d0 W h0
    · rw [h];simp
    · omega
  have hlen:(divP cs room).length=((divP cs room).map fun e=>([.c (.int .i64) (.int (e.1:Int)),.own i4 [.int .i64,.slice 5,.slice 5,.bool] e.1 (e.2 - e.1)]:List A)).length:=by simp
  rw [← hlen]
  refine (walk71 l b1 b2 b3 cs room hbig (fun k A=>∃ d,J k d A) (fun A=>∃ k,k < (divP cs room).length∧Jx k A) (fun k A B ⟨d,h⟩ hg=>⟨d,hJ k d A B h hg⟩) ?_ ?_ W ⟨d0,h0⟩)
  · rintro k A ⟨d,h⟩
    obtain ⟨hR,⟨o2,o3,_⟩,_⟩:=hG k d A h
    obtain ⟨s1,s2,s3⟩:=sig k d A h
    obtain ⟨v,hv,hr⟩:=hrow k d A h
    obtain ⟨u2,hu2,ha2⟩:=box_view hR s2 o2
    obtain ⟨u3,hu3,ha3⟩:=box_view hR s3 o3
    have e2:u2 = .int .i64 room:=by
      cases ha2 with
      | c _ _ _ h=>cases h with | int _ _ _=>rfl
    have e3:u3 = .func (.func 49) #[] #[]:=by
      cases ha3 with
      | fnv _ _ vs hl hh =>
        have:vs=[]:=List.eq_nil_of_length_eq_zero (by simpa using hl)
        subst this;rfl
    subst e2 e3
    rcases hr with ⟨h1,rfl⟩ | ⟨b,cap,cur,tg,recs,hc,h1,rfl,h3,h4,h5,h6,h8⟩
    · rw [h1]
      exact ⟨none,0,hv,hu2,hu3,Nat.le_refl _,fun h=>absurd h (by simp)⟩
    · refine ⟨_,cap,hv,hu2,hu3,h4,fun _=>⟨b,0,rfl,fun j hj=>?_⟩⟩
      have hsz:j * 4+3 < cur.size:=by rw [h5];omega
      have c0:=cell_box h3 (j:=j * 4+0) (by omega)
      have c1:=cell_box h3 (j:=j * 4+1) (by omega)
      have c2:=cell_box h3 (j:=j * 4+2) (by omega)
      have c3:=cell_box h3 (j:=j * 4+3) (by omega)
      have r0:=h8 j hj 0 (by decide)
      have r1:=h8 j hj 1 (by decide)
      have r2:=h8 j hj 2 (by decide)
      have r3:=h8 j hj 3 (by decide)
      simp only [List.getD_cons_zero,List.getD_cons_succ] at r0 r1 r2 r3
      have hjr:j < recs.length:=by rw [← hc] at hj;simpa using hj
      have q1:(cg (eg (List.map e_TRec recs) j) 1).toSl.length=recs[j].Key.length:=by rw [cg_TRec_1];simp [gtl hjr]
      have q2:(cg (eg (List.map e_TRec recs) j) 2).toSl.length=recs[j].Data.length:=by rw [cg_TRec_2];simp [gtl hjr]
      have hg:Go.AE.gt cs j=sz49 recs[j].Key.length recs[j].Data.length:=by
        subst hc
        rw [gtl hj]
        simp [szRec]
      rw [Nat.zero_add]
      revert c0 c1 c2 c3
      revert r0 r1 r2 r3
      generalize cur.getD (j * 4+0) undef=x0
      generalize cur.getD (j * 4+1) undef=x1
      generalize cur.getD (j * 4+2) undef=x2
      generalize cur.getD (j * 4+3) undef=x3
      intro r0 r1 r2 r3 c0 c1 c2 c3
      obtain ⟨ka,kc,rfl⟩:∃ a c,x1 = .slice a recs[j].Key.length c:=by
        cases r1 with
        | empty _ _ a c h _=>rw [h] at q1;exact ⟨a,c,by rw [← q1];rfl⟩
        | slice _ _ _ _ c=>exact ⟨_,c,by rw [q1]⟩
      obtain ⟨da,dc,rfl⟩:∃ a c,x2 = .slice a recs[j].Data.length c:=by
        cases r2 with
        | empty _ _ a c h _=>rw [h] at q2;exact ⟨a,c,by rw [← q2];rfl⟩
        | slice _ _ _ _ c=>exact ⟨_,c,by rw [q2]⟩
      cases r0
      cases r3
      exact ⟨_,ka,_,kc,da,_,dc,_,c0,c1,c2,c3,hg.symm⟩
  · rintro k W1 x ⟨d,h⟩ hx cap b off hcellb
    have hk:k < (divP cs room).length:=(List.getElem?_eq_some_iff.1 hx).1
    obtain ⟨hx1,hx2⟩:=divF_mem _ _ _ _ _ _ hx
    obtain ⟨v,hv,hr⟩:=hrow k d W1 h
    rw [hcellb] at hv
    cases hv
    have hY2:=hY k d W1 #[.int .i64 (x.1:Int),.slice (some ⟨b,off+x.1 * 4,none⟩) (x.2 - x.1) (cap - x.1)] (by simpa using hk) h ?hv
    · obtain ⟨fn,tmps,assign,body,hy,hR⟩:=hY2
      refine ⟨fn,tmps,assign,body,hy,hR.mono ?_⟩
      rintro e W' (⟨rfl,d',h'⟩ | ⟨rfl,h'⟩)
      · exact .inl ⟨rfl,d',h'⟩
      · exact .inr ⟨rfl,k,hk,h'⟩
    case hv =>
      have hyk:((divP cs room).map fun e=>([.c (.int .i64) (.int (e.1:Int)),.own i4 [.int .i64,.slice 5,.slice 5,.bool] e.1 (e.2 - e.1)]:List A)).getD k []=[.c (.int .i64) (.int (x.1:Int)),.own i4 [.int .i64,.slice 5,.slice 5,.bool] x.1 (x.2 - x.1)]:=by
        simp [List.getD_eq_getElem?_getD,hx]
      dsimp only
      rw [hyk]
      refine ⟨rfl,fun j hj=>?_⟩
      match j,hj with
      | 0,_=>exact .c _ _ _ (.int .i64 (.int (x.1:Int)) (by
          have h3:IntKind.i64.min = -9223372036854775808:=by decide
          have h4:IntKind.i64.max=9223372036854775807:=by decide
          simp only [InR,C.toInt_int,h3,h4];omega))
      | 1,_ =>
        rcases hr with ⟨h1,h2⟩ | ⟨b',cap',cur,tg,recs,hc,h1,h2,h3,h4,h5,h6,h8⟩
        · cases h2
        · cases h2
          rcases Nat.eq_zero_or_pos x.1 with h0 | h0
          · rw [h0]
            simp only [Nat.zero_mul,Nat.add_zero,Nat.sub_zero]
            exact .own0 i4 [.int .i64,.slice 5,.slice 5,.bool] x.2 b cap cs.length 59 h1 hx2
          · simp only [Nat.zero_add]
            exact .ownOff i4 [.int .i64,.slice 5,.slice 5,.bool] x.1 (x.2 - x.1) b cap cs.length (cap - x.1) 59 h1 (by omega) (by omega) (by omega)
end Go.Proofs.Ytkebegfopnlkhaa
