/- Text. -/
import Derived.Test.YtkebegfopnlkhaaSH
import Derived.Shelf.RegionOpenPlain
set_option maxRecDepth 100000
set_option linter.unusedVariables false
open _root_.Array renaming getElem?_eq_some_iff→ji
open _root_.Int renaming tmod_nonneg→Jw,tmod_lt_of_pos→Jv
open Go.IntKind renaming wrap_i64→JK
open _root_.List renaming getElem_mem→jm,mem_cons→jN,getD_eq_getElem?_getD→ja,getElem?_eq_getElem→jA,getElem?_eq_some_iff→j5,mem_of_mem_drop→JI
open _root_.Nat renaming le_refl→jr,eq_zero_or_pos→Jc
namespace Go.Proofs.Ytkebegfopnlkhaa
open Go.RowKit Go.Shelf Go.Proofs
theorem RcSrc.below {w W:World} {a:Option Addr} {xs:List Rc} (h:RcSrc w a xs) (hW:Below w.heap.size w W):RcSrc W a xs:=fun hl=>by
  obtain ⟨b,off,e,hb,hc⟩:=h hl
  refine ⟨b,off,e,Nat.lt_of_lt_of_le hb hW.size,fun j hj=>?_⟩
  obtain ⟨ka,kc,da,dc,c0,c1,c2,c3,hk,hd⟩:=hc j hj
  exact ⟨ka,kc,da,dc,(hW.cell (p:=⟨b,off+j * 4,none⟩) hb).trans c0,(hW.cell (p:=⟨b,off+j * 4+1,none⟩) hb).trans c1,(hW.cell (p:=⟨b,off+j * 4+2,none⟩) hb).trans c2,(hW.cell (p:=⟨b,off+j * 4+3,none⟩) hb).trans c3,hk.below hW,hd.below hW⟩
def TkSrc (w:World) (a:Option Addr) (ts:List (List Rc)):Prop:=0 < ts.length→∃ b off,a=some ⟨b,off,none⟩∧b < w.heap.size∧∀ j (h:j < ts.length),∃ ta tc,w.cell? ⟨b,off+j,none⟩=some (.slice ta ts[j].length tc)∧RcSrc w ta ts[j]
set_option maxHeartbeats 8000000 in
theorem Spoil_raw (ts:List (List Rc)) (a:Option Addr) (cap:Nat) (at_ how by_:Int) (w:World) (hx:TkSrc w a ts) (hn3:ts.length≤300) (hb3:∀ x∈ts,x.length≤300∧∀ r∈x,okRc r) (hat:0≤at_∧at_ < 256) (hhow:0≤how∧how < 256) (hby:0≤by_∧by_ < 256) :
    Calls Try.prog 16 #[.slice a ts.length cap,.int .u8 at_,.int .u8 how,.int .u8 by_] w fun e w'=>∃ v,e = .returned v∧Below w.heap.size w w'∧TX 301 w' w.heap.size v:=by
  have hn:ts.length≤100000:=by omega
  have hb:∀ x∈ts,x.length≤100000∧∀ r∈x,r.2.1.length≤100000∧r.2.2.1.length≤100000:=fun x hx=>⟨by have:=(hb3 x hx).1;omega,fun r hr=>by
    obtain ⟨_,⟨q1,_⟩,q2,_⟩:=(hb3 x hx).2 r hr
    exact ⟨by omega,by omega⟩⟩
  obtain ⟨i0,hi,hz0,hz1,hz2⟩:=info_parts (show (Try.prog.info? 57).map (fun i=>(i.zero,i.size,i.bytes))=some (some (.slice none 0 0),1,24) by kernel_rfl)
  have e33:∀ args w,(callFunc 33 args).run Try.prog w = .ok (.enter 33 args) w:=enters_of Try.func33 (by kernel_rfl) rfl
  go_enter Try.func16,Try.ntmps16
  go_wp2
  go_loopw [9,15] (fun v i wr=>∃ k:Nat,k≤ts.length∧i = .int .i64 k∧∃ cs,wr.ownsRow w.heap.size 57 1 v k cs∧Trks wr w.heap.size wr.heap.size (ts.take k) cs∧Below w.heap.size w wr) (fun _ i _=>ts.length - (intOf i).toNat)
  case atStart=>exact ⟨0,Nat.zero_le _,rfl,[],⟨rfl,.inl ⟨rfl,rfl⟩⟩,⟨fun _=>w.heap.size,jr _,fun j hj=>by simp at hj,jr _,rfl,fun j hj=>by simp at hj⟩,Below.refl _ _⟩
  case round =>
    obtain ⟨k,hk,rfl,cs,hown,hrec,hL⟩:=hrel
    by_cases hlt:k < ts.length
    · obtain ⟨b,off,rfl,hbw,hcl⟩:=hx (by omega)
      obtain ⟨ta,tc,c0,hsrc⟩:=hcl k hlt
      have d0:=(hL.cell (p:=⟨b,off+k,none⟩) hbw).trans c0
      have hbk:=hb ts[k] (jm hlt)
      go_wp2_with (go_at_call 33;refine (Copy_raw ts[k] _ _ wr (hsrc.below hL) hbk.1 hbk.2).mono ?_)
      rintro e w1 ⟨v1,rfl,hb1,cs1,ho1,hr1⟩
      have hs1:wr.heap.size≤w1.heap.size:=hb1.size
      have ht1:TrkAt w1 wr.heap.size w1.heap.size v1 ts[k]:=⟨cs1,ho1,hr1,fun g hg=>(ho1.lt g hg).2⟩
      obtain ⟨p1,q1,rfl⟩:∃ p q,v1 = .slice p ts[k].length q:=by
        rcases ho1.2 with ⟨q1,q2⟩ | ⟨g,c',cur,q1,_⟩
        · rw [q2];exact ⟨_,_,q1⟩
        · exact ⟨_,_,q1⟩
      have hown1:w1.ownsRow w.heap.size 57 1 u9 k cs:=owns_keep hown fun b hb=>hb1.block b hb
      have hrec1:Trks w1 w.heap.size wr.heap.size (ts.take k) cs:=hrec.keepT fun b c t _ h2 _ _=>hb1.block b h2
      have hL1:Below w.heap.size w w1:=hL.trans (hb1.mono hL.size)
      go_wp2_with (at_builtin;refine wpList_append_own _ rfl _ _ 26 rfl w.heap.size 57 i0 (.slice none 0 0) 1 24 Try.underlying26 hi hz0 hz1 hz2 rfl (by decide) _ k cs rfl ?hown ⟨w1.heap.size,0,none⟩ 1 1 [.slice p1 ts[k].length q1] rfl rfl ?c1 ?c2 ?c3 ?c4 ?c5 ?_)
      case hown=>exact hown1.alloc _
      case c1 =>
        intro j u hj
        match j,hj with
        | 0,hj=>simp at hj;subst hj;simp [Addr.add]
      case c2 =>
        intro u hu
        simp only [jN,List.not_mem_nil,or_false] at hu
        subst hu;rfl
      case c3=>unfold maxLen;omega
      case c4=>omega
      case c5=>have:=hL1.size;simp;omega
      intro v' w2 hown2 hgr _
      have hne:∀ (b:Nat) (c:Array Value) (t:TypeId),w1.heap[b]? = some (Obj.cells c t (0,0))→(t=5∨t=59)→some b≠u9.ownBlock:=fun b c t hbc ht he=>by
        rcases hown1.2 with ⟨q,_⟩ | ⟨g,cap',cur,q,_,q3,_⟩
        · rw [q] at he;cases he
        · rw [q] at he
          have:b=g:=by simpa [Value.ownBlock] using he
          subst this
          rw [hbc] at q3
          rcases ht with rfl | rfl <;> simp at q3
      have hs2:w1.heap.size+1≤w2.heap.size:=by have:=hgr.size;simpa using this
      have hkeep:∀ (b:Nat) (c:Array Value) (t:TypeId),w1.heap[b]? = some (Obj.cells c t (0,0))→(t=5∨t=59)→w2.heap[b]? = w1.heap[b]? := fun b c t hbc ht=>by
        have hbl:b < w1.heap.size:=(ji.1 hbc).1
        rw [hgr.block b (by simp;omega) (hne b c t hbc ht),Lib.alloc_old _ _ _ hbl]
      have hL2:Below w.heap.size w w2:=Below.grown (hL1.alloc (by have:=hL1.size;omega) _) hgr (by have:=hL1.size;simp;omega) (fun k hk=>(hown1.lt k hk).1)
      have hrec2:Trks w2 w.heap.size w2.heap.size (ts.take (k+1)) (cs ++ [.slice p1 ts[k].length q1]):=by
        rw [List.take_succ_eq_append_getElem hlt]
        exact (hrec1.keepT fun b c t _ _ h ht=>hkeep b c t h ht).snoc (jr _) hL.size hs1 (by omega) (ht1.keepT fun b c t _ _ h ht=>hkeep b c t h ht)
      go_wp2
      exact ⟨⟨k+1,hlt,by go_num,_,hown2,hrec2,hL2⟩,by simp [intOf];omega⟩
    · obtain rfl:k=ts.length:=by omega
      rw [List.take_length] at hrec
      obtain ⟨p9,q9,rfl⟩:∃ p q,u9 = .slice p ts.length q:=by
        rcases hown.2 with ⟨z1,z2⟩ | ⟨g,c',cur,z1,_⟩
        · rw [z2];exact ⟨_,_,z1⟩
        · exact ⟨_,_,z1⟩
      by_cases h0:ts.length=0
      · have hts:ts=[]:=List.length_eq_zero_iff.1 h0
        subst hts
        go_wp2
        go_ret
        exact ⟨_,rfl,hL,_,0,_,rfl,by omega,by omega,fun h=>by omega⟩
      · obtain ⟨G,cur,rfl,hG,hGb,hcap,hcm,hcs,htake⟩:∃ g cur,p9=some ⟨g,0,none⟩∧w.heap.size≤g∧wr.heap[g]? = some (.cells cur 57 (0,0))∧ts.length≤q9∧q9≤maxLen∧cur.size=q9 * 1∧cur.toList.take (ts.length * 1)=cs:=by
          rcases hown.2 with ⟨_,z⟩ | ⟨g,cap',cur,z1,z2,z3,z4,z5,z6,z7⟩
          · omega
          · simp only [Value.slice.injEq,true_and] at z1
            obtain ⟨rfl,rfl⟩:=z1
            exact ⟨g,cur,rfl,z2,z3,z4,z5,z6,z7⟩
        have hTX:TX 301 wr w.heap.size (.slice (some ⟨G,0,none⟩) ts.length q9):=TX.ofTrks hrec hown (by omega) hb3
        obtain ⟨L,hL0,hLm,hLn,hcl,htk⟩:=hrec
        have hcell:∀ j,j < ts.length→wr.cell? ⟨G,j,none⟩=some (cs.getD j undef):=fun j hj=>by
          rw [hown.cellAt j (by omega)]
          simp [ja,hcl,hj]
        have hfz:∀ j,wr.frozen? ⟨G,j,none⟩=false:=fun j=>hown.frozenAt j
        have hw64:wrap64 at_=at_:=by unfold wrap64;omega
        obtain ⟨I,hI,hIlt⟩:∃ I:Nat,(at_ % (ts.length:Int)).toNat=I∧I < ts.length:=by
          refine ⟨_,rfl,?_⟩
          have:=Int.emod_lt_of_pos at_ (show (0:Int) < ts.length by omega)
          have:=Int.emod_nonneg at_ (show (ts.length:Int)≠0 by omega);omega
        have htI:=htk I hIlt
        have hcI:=hcell I hIlt
        obtain ⟨tI,hTI⟩:∃ t,t=ts[I]:=⟨_,rfl⟩
        rw [← hTI] at htI
        obtain ⟨csI,hoI,hrI,hgI⟩:=htI
        obtain ⟨pI,qI,hvI⟩:∃ p q,cs.getD I undef = .slice p tI.length q:=by
          rcases hoI.2 with ⟨z1,z2⟩ | ⟨g,c',cur',z1,_⟩
          · rw [z2];exact ⟨_,_,z1⟩
          · exact ⟨_,_,z1⟩
        have hvG:∀ (h:(at_ % (ts.length:Int)).toNat < cs.length),cs[(at_ % (ts.length:Int)).toNat]'h = .slice pI tI.length qI:=fun h=>by
          rw [← hvI]
          simp only [hI] at h ⊢
          simp [ja,h]
        rw [hvI] at hoI hcI hgI
        clear hvG hcell
        have hbnd:0≤at_ % (ts.length:Int)∧at_ % (ts.length:Int) < ts.length:=⟨Int.emod_nonneg at_ (by omega),Int.emod_lt_of_pos at_ (by omega)⟩
        have hm:how % 10=0∨how % 10=1∨how % 10=2∨how % 10=3∨how % 10=4∨how % 10=5∨how % 10=6∨how % 10=7∨how % 10=8∨how % 10=9:=by omega
        have hTTs:∀ c∈cs,TT wr w.heap.size c:=Trks.cells ⟨L,hL0,hLm,hLn,hcl,htk⟩ hb3
        have mixed:Try.prog.follows .mixedOrders=true:=by kernel_rfl
        have hcom:ts[I].length≠0→∃ (gI J:Nat) (curI:Array Value) (R:Int) (kv dv:Value) (bb:Bool),pI=some ⟨gI,0,none⟩∧w.heap.size≤gI∧J < ts[I].length∧(IntKind.i64.wrap (IntKind.u8.wrap (how.tdiv 10))).tmod (ts[I].length:Int)=(J:Int) ∧
            wr.heap[gI]? = some (.cells curI 59 (0,0))∧curI[J * 4]? = some (.int .i64 R)∧inI R∧curI[J * 4+1]? = some kv∧TB wr w.heap.size kv∧curI[J * 4+2]? = some dv∧TB wr w.heap.size dv∧curI[J * 4+3]? = some (.bool bb):=by
          intro hne
          have hpos:0 < ts[I].length:=by omega
          obtain ⟨J,hJ,hJlt⟩:∃ J:Nat,(IntKind.i64.wrap (IntKind.u8.wrap (how.tdiv 10))).tmod (ts[I].length:Int)=(J:Int)∧J < ts[I].length:=by
            have e1:how.tdiv 10=how / 10:=Int.tdiv_eq_ediv_of_nonneg hhow.1
            have e2:IntKind.u8.wrap (how / 10)=how / 10:=by
              have:IntKind.u8.wrap (how / 10)=(how / 10) % 256:=by simp [IntKind.wrap,IntKind.bits,IntKind.signed]
              omega
            have e3:IntKind.i64.wrap (how / 10)=how / 10:=by rw [JK];omega
            rw [e1,e2,e3,Int.tmod_eq_emod_of_nonneg (by omega)]
            have h1:=Int.emod_nonneg (how / 10) (show (ts[I].length:Int)≠0 by omega)
            have h2:=Int.emod_lt_of_pos (how / 10) (show (0:Int) < ts[I].length by omega)
            exact ⟨((how / 10) % (ts[I].length:Int)).toNat,by omega,by omega⟩
          have hTI':=hTTs (.slice pI tI.length qI) (by rw [← hvI,ja,jA (show I < cs.length by omega)];exact jm _)
          rw [hTI] at hTI'
          obtain ⟨a',n',c',e,_,_,hr⟩:=hTI'
          simp only [Value.slice.injEq] at e
          obtain ⟨rfl,rfl,rfl⟩:=e
          obtain ⟨gI,off,hp,hlo,hTR⟩:=hr hpos
          have hoff:off=0:=by
            rcases hoI.2 with ⟨_,z2⟩ | ⟨g,c',cur',z1,_⟩
            · rw [hTI] at z2;omega
            · rw [hp] at z1
              simp only [Value.slice.injEq,Option.some.injEq,Addr.mk.injEq] at z1
              exact z1.1.2.1
          subst hoff
          obtain ⟨_,curI,hblk,hf⟩:=hTR J hJlt
          obtain ⟨_,f0,R,rfl,hR⟩:=hf 0 (by omega)
          obtain ⟨kv,f1,hkv⟩:=hf 1 (by omega)
          obtain ⟨dv,f2,hdv⟩:=hf 2 (by omega)
          obtain ⟨_,f3,bb,rfl⟩:=hf 3 (by omega)
          exact ⟨gI,J,curI,R,kv,dv,bb,hp,hlo,hJlt,hJ,hblk,by rw [← f0];congr 1;omega,hR,by rw [← f1];congr 1;omega,hkv,by rw [← f2];congr 1;omega,hdv,by rw [← f3];congr 1;omega⟩
        rcases hm with hm | hm | hm | hm | hm | hm | hm | hm | hm | hm
        · clear hcom
          go_wp2_with fail
          have e1:at_ % (ts.length:Int)≤(q9:Int):=by omega
          have hwI:IntKind.i64.wrap (at_ % (ts.length:Int)+1)=(I:Int)+1:=by rw [JK];omega
          have e2:(I:Int)+1≤(ts.length:Int):=by omega
          have e4:(0:Int)≤(I:Int)+1:=by omega
          obtain ⟨news,hnews⟩:∃ news,news=cs.drop (I+1):=⟨_,rfl⟩
          have hnl:news.length=(ts.length - (I+1)) * 1:=by rw [hnews,List.length_drop,hcl];omega
          obtain ⟨A,hA⟩:∃ A:Option Addr,A=if q9=I+1 then some ⟨G,0,none⟩ else some ⟨G,I+1,none⟩:=⟨_,rfl⟩
          have hAs:∃ ad,A=some ad∧∀ (j:Nat) (u:Value),news[j]? = some u→wr.drew.cell? (ad.add j)=some u:=by
            rw [hA]
            split
            · rename_i hq
              exact ⟨_,rfl,fun j u hu=>by have:=(j5.1 hu).1;omega⟩
            · refine ⟨_,rfl,fun j u hu=>?_⟩
              have hjl:=(j5.1 hu).1
              have h1:wr.cell? ⟨G,I+1+j,none⟩=some u:=by
                rw [hown.cellAt (I+1+j) (by omega),← hu,hnews,List.getElem?_drop]
              unfold Addr.add
              split
              · rename_i hj0;subst hj0;exact h1
              · exact h1
          obtain ⟨ad,hAd,hsrc⟩:=hAs
          have hone:∀ u∈news,u.oneCell'=true:=fun u hu=>by
            obtain ⟨a',n',c',rfl,_⟩:=hTTs u (by rw [hnews] at hu;exact JI hu)
            rfl
          have hsp:∀ j,j < news.length→(wr.drew.cell? ⟨G,0+I * 1+j,none⟩).isSome=true∧wr.drew.frozen? ⟨G,0+I * 1+j,none⟩=false:=fun j hj=>by
            have h1:=hown.cellAt (0+I * 1+j) (by omega)
            refine ⟨?_,hown.frozenAt _⟩
            show (wr.cell? _).isSome=true
            rw [h1,jA (by omega)];rfl
          have hGl:wr.heap[G]? = some (.cells cur 57 (0,0)):=hGb
          clear hwI
          have hwI:IntKind.i64.wrap (at_ % (ts.length:Int)+1)=(I:Int)+1:=by rw [JK];omega
          go_region_law_o (refine step_append_room rfl (.tmp 42) (.tmp 46) 26 rfl 57 i0 1 Try.underlying26 hi hz1 G 0 I q9 (by simp [Act.eval,Act.put,hI]) ad (ts.length - (I+1)) (q9 - (I+1)) news (by simp [Act.eval,Act.put,← hAd,hA]) hnl hsrc hone (by omega) hsp ?_)
          all_goals go_wp2
          all_goals go_ret
          all_goals first
            | exact ⟨_,rfl,below_setCells hG _ _ _ hL.drew,TX.cut (TX.w57s _ _ _ cur hGb (fun v hv=>(hTTs v (JI hv)).ev (Ev.heap rfl)) (hTX.ev (Ev.heap rfl))) (by omega)⟩
            | (have hq:q9=I+1:=by assumption
               subst hq
               exact ⟨_,rfl,below_setCells hG _ _ _ hL.drew,TX.cut (TX.w57s _ _ _ cur hGb (fun v hv=>(hTTs v (JI hv)).ev (Ev.heap rfl)) (hTX.ev (Ev.heap rfl))) (by omega)⟩)
        · clear hcom
          go_wp2_with (go_at_call 33;refine (Copy_raw ts[I] _ _ wr (hTI ▸ RcSrc.ofTrk ⟨csI,hoI,hrI,hgI⟩) (by have:=(hb _ (jm hIlt)).1;omega) (fun r hr=>(hb _ (jm hIlt)).2 r hr)).mono ?_)
          rintro e w1 ⟨v1,rfl,hb1,cs1,ho1,hr1⟩
          have hs1:wr.heap.size≤w1.heap.size:=hb1.size
          have ht1:TrkAt w1 wr.heap.size w1.heap.size v1 ts[I]:=⟨cs1,ho1,hr1,fun g hg=>(ho1.lt g hg).2⟩
          have hT1:TT w1 w.heap.size v1:=TT.ofTrk ht1 hL.size (hb3 _ (jm hIlt))
          obtain ⟨p1,q1,rfl⟩:∃ p q,v1 = .slice p ts[I].length q:=by
            rcases ho1.2 with ⟨q1,q2⟩ | ⟨g,c',cur,q1,_⟩
            · rw [q2];exact ⟨_,_,q1⟩
            · exact ⟨_,_,q1⟩
          have hown1:w1.ownsRow w.heap.size 57 1 (.slice (some ⟨G,0,none⟩) ts.length q9) ts.length cs:=owns_keep hown fun b hb=>hb1.block b hb
          have hL1:Below w.heap.size w w1:=hL.trans (hb1.mono hL.size)
          have hTT1:∀ c∈cs,TT w1 w.heap.size c:=fun c hc=>(hTTs c hc).ev (Ev.below hb1)
          go_wp2_with (at_builtin;refine wpList_append_own _ rfl _ _ 26 rfl w.heap.size 57 i0 (.slice none 0 0) 1 24 Try.underlying26 hi hz0 hz1 hz2 rfl (by decide) _ ts.length cs rfl ?hown ⟨w1.heap.size,0,none⟩ 1 1 [.slice p1 ts[I].length q1] rfl rfl ?c1 ?c2 ?c3 ?c4 ?c5 ?_)
          case hown=>exact hown1.alloc _
          case c1 =>
            intro j u hj
            match j,hj with
            | 0,hj=>simp at hj;subst hj;simp [Addr.add]
          case c2 =>
            intro u hu
            simp only [jN,List.not_mem_nil,or_false] at hu
            subst hu;rfl
          case c3=>unfold maxLen;omega
          case c4=>omega
          case c5=>have:=hL1.size;simp;omega
          intro v' w2 hown2 hgr _
          have hs2:w1.heap.size+1≤w2.heap.size:=by have:=hgr.size;simpa using this
          have hkeep:∀ (b:Nat) (c:Array Value) (t:TypeId),w1.heap[b]? = some (Obj.cells c t (0,0))→(t=5∨t=59)→w2.heap[b]? = w1.heap[b]? := fun b c t hbc ht=>by
            have hbl:b < w1.heap.size:=(ji.1 hbc).1
            have hne:some b≠(Value.slice (some ⟨G,0,none⟩) ts.length q9).ownBlock:=fun he=>by
              have:b=G:=by simpa [Value.ownBlock] using he
              subst this
              have hg1:w1.heap[b]? = some (.cells cur 57 (0,0)):=(hb1.block b (ji.1 hGb).1).trans hGb
              rw [hbc] at hg1
              rcases ht with rfl | rfl <;> simp at hg1
            rw [hgr.block b (by simp;omega) hne,Lib.alloc_old _ _ _ hbl]
          have hE:Ev w.heap.size w1 w2 [5,59]:=Ev.same fun b c t _ ht hc=>hkeep b c t hc (by simpa using ht)
          have hL2:Below w.heap.size w w2:=Below.grown (hL1.alloc (by have:=hL1.size;omega) _) hgr (by have:=hL1.size;simp;omega) (fun k hk=>(hown1.lt k hk).1)
          go_wp2
          go_ret
          exact ⟨_,rfl,hL2,TX.ofOwn hown2 (by omega) fun c hc=>by
            rcases List.mem_append.1 hc with h | h
            · exact (hTT1 c h).ev hE
            · simp only [List.mem_singleton] at h
              rw [h];exact hT1.ev hE⟩
        · clear hcom
          go_wp2_with fail
          · have hwI:IntKind.i64.wrap (at_ % (ts.length:Int)+1)=(I:Int)+1:=by rw [JK];omega
            have f0:(0:Int)≤(I:Int)+1:=by omega
            have f1:(I:Int)+1 < (ts.length:Int):=by omega
            have f2:((I:Int)+1).toNat=I+1:=by omega
            have f3:(at_ % (ts.length:Int)).toNat=I:=hI
            obtain ⟨vJ,hvJ⟩:∃ v,cs[I+1]? = some v:=⟨_,jA (by omega)⟩
            have hTJ:=hTTs vJ (List.mem_of_getElem? hvJ)
            have hTI':=hTTs (.slice pI tI.length qI) (by rw [← hvI,ja,jA (show I < cs.length by omega)];exact jm _)
            obtain ⟨aJ,nJ,cJ,rfl,hJr⟩:=hTJ
            have hTJ:TT wr w.heap.size (.slice aJ nJ cJ):=⟨_,_,_,rfl,hJr⟩
            have dI:wr.drew.cell? ⟨G,I,none⟩=some (.slice pI ts[I].length qI):=by rw [← hTI];exact hcI
            have dJ:wr.drew.cell? ⟨G,I+1,none⟩=some (.slice aJ nJ cJ):=(hown.cellAt (I+1) (by omega)).trans hvJ
            have dI':wr.cell? ⟨G,I,none⟩=some (.slice pI ts[I].length qI):=dI
            have dJ':wr.cell? ⟨G,I+1,none⟩=some (.slice aJ nJ cJ):=dJ
            have z1:∀ j,wr.frozen? ⟨G,j,none⟩=false:=fun j=>hown.frozenAt j
            have z0:∀ j,wr.drew.frozen? ⟨G,j,none⟩=false:=fun j=>hown.frozenAt j
            go_region_o
            have hTI2:TT wr w.heap.size (.slice pI ts[I].length qI):=by rw [← hTI];exact hTI'
            all_goals go_wp2
            all_goals go_ret
            exact ⟨_,rfl,((hL.setCell (p:=⟨G,I,none⟩) hG _).setCell (p:=⟨G,I+1,none⟩) hG _).drew,(TX.w57 (TX.w57 hTX hGb hTJ) (heap_setCell_same _ _ _ _ 57 _ hGb) (hTI2.w57 hGb)).ev (Ev.heap rfl)⟩
          · go_ret
            exact ⟨_,rfl,hL,hTX⟩
        · go_wp2_with fail
          · go_ret
            exact ⟨_,rfl,hL,hTX⟩
          · have hne:ts[I].length≠0:=by
              intro h
              have:¬ ((ts[I].length:Int) == 0)=true:=by first | assumption | simp_all
              exact this (by rw [h];rfl)
            obtain ⟨gI,J,curI,R,kv,dv,bb,hp,hlo,hJlt,hJ,hblk,f0,hR,f1,hkv,f2,hdv,f3⟩:=hcom hne
            have hTI2:TT wr w.heap.size (.slice pI ts[I].length qI):=by rw [← hTI];exact hTTs (.slice pI tI.length qI) (by rw [← hvI,ja,jA (show I < cs.length by omega)];exact jm _)
            obtain ⟨da,nd,dc,rfl,hdr⟩:=hdv
            have hdv:TB wr w.heap.size (.slice da nd dc):=⟨_,_,_,rfl,hdr⟩
            subst hp
            have hcd:wr.drew.cell? ⟨G,I,none⟩=some (.slice (some ⟨gI,0,none⟩) ts[I].length qI):=by rw [← hTI];exact hcI
            have hc1:wr.cell? ⟨G,I,none⟩=some (.slice (some ⟨gI,0,none⟩) ts[I].length qI):=hcd
            have hfI:∀ j,wr.drew.frozen? ⟨gI,j,none⟩=false:=fun j=>Lib.frozen_of_heap hblk j
            have hfI1:∀ j,wr.frozen? ⟨gI,j,none⟩=false:=hfI
            have hfG:∀ j,wr.drew.frozen? ⟨G,j,none⟩=false:=fun j=>Lib.frozen_of_heap hGb j
            have u0:wr.cell? ⟨gI,J * 4,none⟩=some (.int .i64 R):=(Lib.cell_of_heap hblk _).trans f0
            have u1:wr.cell? ⟨gI,J * 4+1,none⟩=some kv:=(Lib.cell_of_heap hblk _).trans f1
            have u2:wr.cell? ⟨gI,J * 4+2,none⟩=some (.slice da nd dc):=(Lib.cell_of_heap hblk _).trans f2
            have u3:wr.cell? ⟨gI,J * 4+3,none⟩=some (.bool bb):=(Lib.cell_of_heap hblk _).trans f3
            have t0:wr.drew.cell? ⟨gI,J * 4,none⟩=some (.int .i64 R):=u0
            have t1:wr.drew.cell? ⟨gI,J * 4+1,none⟩=some kv:=u1
            have t2:wr.drew.cell? ⟨gI,J * 4+2,none⟩=some (.slice da nd dc):=u2
            have t3:wr.drew.cell? ⟨gI,J * 4+3,none⟩=some (.bool bb):=u3
            have hle:ts[I].length≤qI:=by
              obtain ⟨a',n',c',e,_,h1,_⟩:=hTI2
              simp only [Value.slice.injEq] at e
              obtain ⟨_,rfl,rfl⟩:=e
              exact h1
            obtain ⟨M,hM,hMlt⟩:∃ M:Nat,by_.tmod ((nd:Int)+1)=(M:Int)∧M≤nd:=by
              have h1:=Jw ((nd:Int)+1) hby.1
              have h2:=Jv by_ (show (0:Int) < (nd:Int)+1 by omega)
              exact ⟨(by_.tmod ((nd:Int)+1)).toNat,by omega,by omega⟩
            clear hcom hvI hoI hgI hrI
            go_region_o
            all_goals go_wp2
            all_goals go_ret
            all_goals exact ⟨_,rfl,(hL.setCell (p:=⟨gI,J * 4+3,none⟩) hlo _).drew,(TX.w59 hTX hblk (by rw [show (J * 4+3) % 4=3 by omega];exact ⟨true,rfl⟩)).ev (Ev.heap rfl)⟩
        · go_wp2_with fail
          · go_ret
            exact ⟨_,rfl,hL,hTX⟩
          · have hne:ts[I].length≠0:=by
              intro h
              have:¬ ((ts[I].length:Int) == 0)=true:=by first | assumption | simp_all
              exact this (by rw [h];rfl)
            obtain ⟨gI,J,curI,R,kv,dv,bb,hp,hlo,hJlt,hJ,hblk,f0,hR,f1,hkv,f2,hdv,f3⟩:=hcom hne
            have hTI2:TT wr w.heap.size (.slice pI ts[I].length qI):=by rw [← hTI];exact hTTs (.slice pI tI.length qI) (by rw [← hvI,ja,jA (show I < cs.length by omega)];exact jm _)
            obtain ⟨da,nd,dc,rfl,hdr⟩:=hdv
            have hdv:TB wr w.heap.size (.slice da nd dc):=⟨_,_,_,rfl,hdr⟩
            subst hp
            have hcd:wr.drew.cell? ⟨G,I,none⟩=some (.slice (some ⟨gI,0,none⟩) ts[I].length qI):=by rw [← hTI];exact hcI
            have hc1:wr.cell? ⟨G,I,none⟩=some (.slice (some ⟨gI,0,none⟩) ts[I].length qI):=hcd
            have hfI:∀ j,wr.drew.frozen? ⟨gI,j,none⟩=false:=fun j=>Lib.frozen_of_heap hblk j
            have hfI1:∀ j,wr.frozen? ⟨gI,j,none⟩=false:=hfI
            have hfG:∀ j,wr.drew.frozen? ⟨G,j,none⟩=false:=fun j=>Lib.frozen_of_heap hGb j
            have u0:wr.cell? ⟨gI,J * 4,none⟩=some (.int .i64 R):=(Lib.cell_of_heap hblk _).trans f0
            have u1:wr.cell? ⟨gI,J * 4+1,none⟩=some kv:=(Lib.cell_of_heap hblk _).trans f1
            have u2:wr.cell? ⟨gI,J * 4+2,none⟩=some (.slice da nd dc):=(Lib.cell_of_heap hblk _).trans f2
            have u3:wr.cell? ⟨gI,J * 4+3,none⟩=some (.bool bb):=(Lib.cell_of_heap hblk _).trans f3
            have t0:wr.drew.cell? ⟨gI,J * 4,none⟩=some (.int .i64 R):=u0
            have t1:wr.drew.cell? ⟨gI,J * 4+1,none⟩=some kv:=u1
            have t2:wr.drew.cell? ⟨gI,J * 4+2,none⟩=some (.slice da nd dc):=u2
            have t3:wr.drew.cell? ⟨gI,J * 4+3,none⟩=some (.bool bb):=u3
            have hle:ts[I].length≤qI:=by
              obtain ⟨a',n',c',e,_,h1,_⟩:=hTI2
              simp only [Value.slice.injEq] at e
              obtain ⟨_,rfl,rfl⟩:=e
              exact h1
            obtain ⟨M,hM,hMlt⟩:∃ M:Nat,by_.tmod ((nd:Int)+1)=(M:Int)∧M≤nd:=by
              have h1:=Jw ((nd:Int)+1) hby.1
              have h2:=Jv by_ (show (0:Int) < (nd:Int)+1 by omega)
              exact ⟨(by_.tmod ((nd:Int)+1)).toNat,by omega,by omega⟩
            clear hcom hvI hoI hgI hrI
            go_region_o
            all_goals go_wp2
            all_goals go_ret
            all_goals exact ⟨_,rfl,(hL.setCell (p:=⟨gI,J * 4,none⟩) hlo _).drew,(TX.w59 hTX hblk (by rw [show J * 4 % 4=0 by omega];exact ⟨_,rfl,by unfold inI wrap64;omega⟩)).ev (Ev.heap rfl)⟩
        · go_wp2_with fail
          · go_ret
            exact ⟨_,rfl,hL,hTX⟩
          · have hne:ts[I].length≠0:=by
              intro h
              have:¬ ((ts[I].length:Int) == 0)=true:=by first | assumption | simp_all
              exact this (by rw [h];rfl)
            obtain ⟨gI,J,curI,R,kv,dv,bb,hp,hlo,hJlt,hJ,hblk,f0,hR,f1,hkv,f2,hdv,f3⟩:=hcom hne
            have hTI2:TT wr w.heap.size (.slice pI ts[I].length qI):=by rw [← hTI];exact hTTs (.slice pI tI.length qI) (by rw [← hvI,ja,jA (show I < cs.length by omega)];exact jm _)
            obtain ⟨da,nd,dc,rfl,hdr⟩:=hdv
            have hdv:TB wr w.heap.size (.slice da nd dc):=⟨_,_,_,rfl,hdr⟩
            subst hp
            have hcd:wr.drew.cell? ⟨G,I,none⟩=some (.slice (some ⟨gI,0,none⟩) ts[I].length qI):=by rw [← hTI];exact hcI
            have hc1:wr.cell? ⟨G,I,none⟩=some (.slice (some ⟨gI,0,none⟩) ts[I].length qI):=hcd
            have hfI:∀ j,wr.drew.frozen? ⟨gI,j,none⟩=false:=fun j=>Lib.frozen_of_heap hblk j
            have hfI1:∀ j,wr.frozen? ⟨gI,j,none⟩=false:=hfI
            have hfG:∀ j,wr.drew.frozen? ⟨G,j,none⟩=false:=fun j=>Lib.frozen_of_heap hGb j
            have u0:wr.cell? ⟨gI,J * 4,none⟩=some (.int .i64 R):=(Lib.cell_of_heap hblk _).trans f0
            have u1:wr.cell? ⟨gI,J * 4+1,none⟩=some kv:=(Lib.cell_of_heap hblk _).trans f1
            have u2:wr.cell? ⟨gI,J * 4+2,none⟩=some (.slice da nd dc):=(Lib.cell_of_heap hblk _).trans f2
            have u3:wr.cell? ⟨gI,J * 4+3,none⟩=some (.bool bb):=(Lib.cell_of_heap hblk _).trans f3
            have t0:wr.drew.cell? ⟨gI,J * 4,none⟩=some (.int .i64 R):=u0
            have t1:wr.drew.cell? ⟨gI,J * 4+1,none⟩=some kv:=u1
            have t2:wr.drew.cell? ⟨gI,J * 4+2,none⟩=some (.slice da nd dc):=u2
            have t3:wr.drew.cell? ⟨gI,J * 4+3,none⟩=some (.bool bb):=u3
            have hle:ts[I].length≤qI:=by
              obtain ⟨a',n',c',e,_,h1,_⟩:=hTI2
              simp only [Value.slice.injEq] at e
              obtain ⟨_,rfl,rfl⟩:=e
              exact h1
            obtain ⟨M,hM,hMlt⟩:∃ M:Nat,by_.tmod ((nd:Int)+1)=(M:Int)∧M≤nd:=by
              have h1:=Jw ((nd:Int)+1) hby.1
              have h2:=Jv by_ (show (0:Int) < (nd:Int)+1 by omega)
              exact ⟨(by_.tmod ((nd:Int)+1)).toNat,by omega,by omega⟩
            clear hcom hvI hoI hgI hrI
            go_region_o
            all_goals have hbA:∀ o:Obj,(wr.alloc o).heap[gI]? = some (.cells curI 59 (0,0)):=fun o=>(Lib.alloc_old wr o gI (ji.1 hblk).1).trans hblk
            all_goals have hfA:∀ (o:Obj) (j:Nat),(wr.alloc o).frozen? ⟨gI,j,none⟩=false:=fun o j=>Lib.frozen_of_heap (hbA o) j
            all_goals have hfB:∀ (o:Obj) (j:Nat),(wr.alloc o).drew.frozen? ⟨gI,j,none⟩=false:=fun o j=>Lib.frozen_of_heap (hbA o) j
            all_goals have hfC:∀ (o:Obj) (j:Nat),(wr.drew.alloc o).frozen? ⟨gI,j,none⟩=false:=fun o j=>Lib.frozen_of_heap (w:=wr.drew.alloc o) ((Lib.alloc_old wr o gI (ji.1 hblk).1).trans hblk) j
            all_goals have hcA:∀ (o:Obj),(wr.alloc o).cell? ⟨gI,J * 4+1,none⟩=some kv:=fun o=>(Lib.cell_of_heap (hbA o) _).trans f1
            all_goals have hcB:∀ (o:Obj),(wr.alloc o).drew.cell? ⟨gI,J * 4+1,none⟩=some kv:=fun o=>(Lib.cell_of_heap (hbA o) _).trans f1
            all_goals go_wp2
            all_goals go_ret
            all_goals exact ⟨_,rfl,((hL.alloc hL.size _).setCell (p:=⟨gI,J * 4+1,none⟩) hlo _).drew,(TX.w59 (hTX.ev (Ev.same fun b c t _ _ hc=>Lib.alloc_old wr _ b (ji.1 hc).1)) (hbA _) (by
              rw [show (J * 4+1) % 4=1 by omega]
              exact ⟨_,1,1,rfl,by omega,by omega,fun _=>⟨wr.heap.size,0,#[.int .u8 by_],rfl,hL.size,heap_alloc_new wr _,one_ok hby⟩⟩)).ev (Ev.heap rfl)⟩
        · go_wp2_with fail
          · go_ret
            exact ⟨_,rfl,hL,hTX⟩
          · have hne:ts[I].length≠0:=by
              intro h
              have:¬ ((ts[I].length:Int) == 0)=true:=by first | assumption | simp_all
              exact this (by rw [h];rfl)
            obtain ⟨gI,J,curI,R,kv,dv,bb,hp,hlo,hJlt,hJ,hblk,f0,hR,f1,hkv,f2,hdv,f3⟩:=hcom hne
            have hTI2:TT wr w.heap.size (.slice pI ts[I].length qI):=by rw [← hTI];exact hTTs (.slice pI tI.length qI) (by rw [← hvI,ja,jA (show I < cs.length by omega)];exact jm _)
            obtain ⟨da,nd,dc,rfl,hdr⟩:=hdv
            have hdv:TB wr w.heap.size (.slice da nd dc):=⟨_,_,_,rfl,hdr⟩
            subst hp
            have hcd:wr.drew.cell? ⟨G,I,none⟩=some (.slice (some ⟨gI,0,none⟩) ts[I].length qI):=by rw [← hTI];exact hcI
            have hc1:wr.cell? ⟨G,I,none⟩=some (.slice (some ⟨gI,0,none⟩) ts[I].length qI):=hcd
            have hfI:∀ j,wr.drew.frozen? ⟨gI,j,none⟩=false:=fun j=>Lib.frozen_of_heap hblk j
            have hfI1:∀ j,wr.frozen? ⟨gI,j,none⟩=false:=hfI
            have hfG:∀ j,wr.drew.frozen? ⟨G,j,none⟩=false:=fun j=>Lib.frozen_of_heap hGb j
            have u0:wr.cell? ⟨gI,J * 4,none⟩=some (.int .i64 R):=(Lib.cell_of_heap hblk _).trans f0
            have u1:wr.cell? ⟨gI,J * 4+1,none⟩=some kv:=(Lib.cell_of_heap hblk _).trans f1
            have u2:wr.cell? ⟨gI,J * 4+2,none⟩=some (.slice da nd dc):=(Lib.cell_of_heap hblk _).trans f2
            have u3:wr.cell? ⟨gI,J * 4+3,none⟩=some (.bool bb):=(Lib.cell_of_heap hblk _).trans f3
            have t0:wr.drew.cell? ⟨gI,J * 4,none⟩=some (.int .i64 R):=u0
            have t1:wr.drew.cell? ⟨gI,J * 4+1,none⟩=some kv:=u1
            have t2:wr.drew.cell? ⟨gI,J * 4+2,none⟩=some (.slice da nd dc):=u2
            have t3:wr.drew.cell? ⟨gI,J * 4+3,none⟩=some (.bool bb):=u3
            have hle:ts[I].length≤qI:=by
              obtain ⟨a',n',c',e,_,h1,_⟩:=hTI2
              simp only [Value.slice.injEq] at e
              obtain ⟨_,rfl,rfl⟩:=e
              exact h1
            obtain ⟨M,hM,hMlt⟩:∃ M:Nat,by_.tmod ((nd:Int)+1)=(M:Int)∧M≤nd:=by
              have h1:=Jw ((nd:Int)+1) hby.1
              have h2:=Jv by_ (show (0:Int) < (nd:Int)+1 by omega)
              exact ⟨(by_.tmod ((nd:Int)+1)).toNat,by omega,by omega⟩
            clear hcom hvI hoI hgI hrI
            go_region_o
            all_goals go_wp2_with fail
            all_goals have hwn:IntKind.i64.wrap ((nd:Int)+1)=(nd:Int)+1:=by rw [JK];omega
            all_goals have hwb:IntKind.i64.wrap by_=by_:=by rw [JK];omega
            all_goals have hMc:(M:Int)≤(dc:Int):=by have:=hdr.2.1;omega
            all_goals have hnz:¬ (nd:Int)+1=0:=by omega
            all_goals have s2:wr.drew.drew.cell? ⟨gI,J * 4+2,none⟩=some (.slice da nd dc):=u2
            all_goals have hfA:∀ j,wr.drew.drew.frozen? ⟨gI,j,none⟩=false:=fun j=>Lib.frozen_of_heap hblk j
            all_goals go_region_o
            all_goals go_wp2
            all_goals go_ret
            all_goals exact ⟨_,rfl,(hL.setCell (p:=⟨gI,J * 4+2,none⟩) hlo _).drew.drew,(TX.w59 hTX hblk (by rw [show (J * 4+2) % 4=2 by omega];exact hdv.cut hMlt)).ev (Ev.heap rfl)⟩
        · go_wp2_with fail
          · go_ret
            exact ⟨_,rfl,hL,hTX⟩
          · have hne:ts[I].length≠0:=by
              intro h
              have:¬ ((ts[I].length:Int) == 0)=true:=by first | assumption | simp_all
              exact this (by rw [h];rfl)
            obtain ⟨gI,J,curI,R,kv,dv,bb,hp,hlo,hJlt,hJ,hblk,f0,hR,f1,hkv,f2,hdv,f3⟩:=hcom hne
            have hTI2:TT wr w.heap.size (.slice pI ts[I].length qI):=by rw [← hTI];exact hTTs (.slice pI tI.length qI) (by rw [← hvI,ja,jA (show I < cs.length by omega)];exact jm _)
            obtain ⟨da,nd,dc,rfl,hdr⟩:=hdv
            have hdv:TB wr w.heap.size (.slice da nd dc):=⟨_,_,_,rfl,hdr⟩
            subst hp
            have hcd:wr.drew.cell? ⟨G,I,none⟩=some (.slice (some ⟨gI,0,none⟩) ts[I].length qI):=by rw [← hTI];exact hcI
            have hc1:wr.cell? ⟨G,I,none⟩=some (.slice (some ⟨gI,0,none⟩) ts[I].length qI):=hcd
            have hfI:∀ j,wr.drew.frozen? ⟨gI,j,none⟩=false:=fun j=>Lib.frozen_of_heap hblk j
            have hfI1:∀ j,wr.frozen? ⟨gI,j,none⟩=false:=hfI
            have hfG:∀ j,wr.drew.frozen? ⟨G,j,none⟩=false:=fun j=>Lib.frozen_of_heap hGb j
            have u0:wr.cell? ⟨gI,J * 4,none⟩=some (.int .i64 R):=(Lib.cell_of_heap hblk _).trans f0
            have u1:wr.cell? ⟨gI,J * 4+1,none⟩=some kv:=(Lib.cell_of_heap hblk _).trans f1
            have u2:wr.cell? ⟨gI,J * 4+2,none⟩=some (.slice da nd dc):=(Lib.cell_of_heap hblk _).trans f2
            have u3:wr.cell? ⟨gI,J * 4+3,none⟩=some (.bool bb):=(Lib.cell_of_heap hblk _).trans f3
            have t0:wr.drew.cell? ⟨gI,J * 4,none⟩=some (.int .i64 R):=u0
            have t1:wr.drew.cell? ⟨gI,J * 4+1,none⟩=some kv:=u1
            have t2:wr.drew.cell? ⟨gI,J * 4+2,none⟩=some (.slice da nd dc):=u2
            have t3:wr.drew.cell? ⟨gI,J * 4+3,none⟩=some (.bool bb):=u3
            have hle:ts[I].length≤qI:=by
              obtain ⟨a',n',c',e,_,h1,_⟩:=hTI2
              simp only [Value.slice.injEq] at e
              obtain ⟨_,rfl,rfl⟩:=e
              exact h1
            obtain ⟨M,hM,hMlt⟩:∃ M:Nat,by_.tmod ((nd:Int)+1)=(M:Int)∧M≤nd:=by
              have h1:=Jw ((nd:Int)+1) hby.1
              have h2:=Jv by_ (show (0:Int) < (nd:Int)+1 by omega)
              exact ⟨(by_.tmod ((nd:Int)+1)).toNat,by omega,by omega⟩
            clear hcom hvI hoI hgI hrI
            go_region_o
            all_goals go_wp2_with fail
            all_goals have hwn:IntKind.i64.wrap ((ts[I].length:Int) - 1)=(ts[I].length:Int) - 1:=by rw [JK];have:=(hb3 _ (jm hIlt)).1;omega
            all_goals have g0:(0:Int)≤(ts[I].length:Int) - 1:=by omega
            all_goals have g1:(ts[I].length:Int) - 1≤(qI:Int):=by omega
            all_goals have g2:((ts[I].length:Int) - 1).toNat=ts[I].length - 1:=by omega
            all_goals have hcA:wr.drew.drew.cell? ⟨G,I,none⟩=some (.slice (some ⟨gI,0,none⟩) ts[I].length qI):=hcd
            all_goals have hfA:∀ j,wr.drew.drew.frozen? ⟨G,j,none⟩=false:=fun j=>Lib.frozen_of_heap hGb j
            all_goals go_region_o
            all_goals go_wp2
            all_goals go_ret
            all_goals exact ⟨_,rfl,(hL.setCell (p:=⟨G,I,none⟩) hG _).drew.drew,(TX.w57 hTX hGb (hTI2.cut (by omega))).ev (Ev.heap rfl)⟩
        · go_wp2_with fail
          · go_ret
            exact ⟨_,rfl,hL,hTX⟩
          · have hne:ts[I].length≠0:=by
              intro h
              have:¬ ((ts[I].length:Int) == 0)=true:=by first | assumption | simp_all
              exact this (by rw [h];rfl)
            obtain ⟨gI,J,curI,R,kv,dv,bb,hp,hlo,hJlt,hJ,hblk,f0,hR,f1,hkv,f2,hdv,f3⟩:=hcom hne
            have hTI2:TT wr w.heap.size (.slice pI ts[I].length qI):=by rw [← hTI];exact hTTs (.slice pI tI.length qI) (by rw [← hvI,ja,jA (show I < cs.length by omega)];exact jm _)
            obtain ⟨da,nd,dc,rfl,hdr⟩:=hdv
            have hdv:TB wr w.heap.size (.slice da nd dc):=⟨_,_,_,rfl,hdr⟩
            subst hp
            have hcd:wr.drew.cell? ⟨G,I,none⟩=some (.slice (some ⟨gI,0,none⟩) ts[I].length qI):=by rw [← hTI];exact hcI
            have hc1:wr.cell? ⟨G,I,none⟩=some (.slice (some ⟨gI,0,none⟩) ts[I].length qI):=hcd
            have hfI:∀ j,wr.drew.frozen? ⟨gI,j,none⟩=false:=fun j=>Lib.frozen_of_heap hblk j
            have hfI1:∀ j,wr.frozen? ⟨gI,j,none⟩=false:=hfI
            have hfG:∀ j,wr.drew.frozen? ⟨G,j,none⟩=false:=fun j=>Lib.frozen_of_heap hGb j
            have u0:wr.cell? ⟨gI,J * 4,none⟩=some (.int .i64 R):=(Lib.cell_of_heap hblk _).trans f0
            have u1:wr.cell? ⟨gI,J * 4+1,none⟩=some kv:=(Lib.cell_of_heap hblk _).trans f1
            have u2:wr.cell? ⟨gI,J * 4+2,none⟩=some (.slice da nd dc):=(Lib.cell_of_heap hblk _).trans f2
            have u3:wr.cell? ⟨gI,J * 4+3,none⟩=some (.bool bb):=(Lib.cell_of_heap hblk _).trans f3
            have t0:wr.drew.cell? ⟨gI,J * 4,none⟩=some (.int .i64 R):=u0
            have t1:wr.drew.cell? ⟨gI,J * 4+1,none⟩=some kv:=u1
            have t2:wr.drew.cell? ⟨gI,J * 4+2,none⟩=some (.slice da nd dc):=u2
            have t3:wr.drew.cell? ⟨gI,J * 4+3,none⟩=some (.bool bb):=u3
            have hle:ts[I].length≤qI:=by
              obtain ⟨a',n',c',e,_,h1,_⟩:=hTI2
              simp only [Value.slice.injEq] at e
              obtain ⟨_,rfl,rfl⟩:=e
              exact h1
            obtain ⟨M,hM,hMlt⟩:∃ M:Nat,by_.tmod ((nd:Int)+1)=(M:Int)∧M≤nd:=by
              have h1:=Jw ((nd:Int)+1) hby.1
              have h2:=Jv by_ (show (0:Int) < (nd:Int)+1 by omega)
              exact ⟨(by_.tmod ((nd:Int)+1)).toNat,by omega,by omega⟩
            clear hcom hvI hoI hgI hrI
            rcases Jc nd with hz | hpos
            · subst hz
              go_region_o
              all_goals go_wp2
              all_goals go_ret
              all_goals exact ⟨_,rfl,hL.drew,hTX.ev (Ev.heap rfl)⟩
            · obtain ⟨bD,oD,curD,rfl,hbD,hcD,hD⟩:=hdr.2.2 hpos
              obtain ⟨Q,hQ,hQlt⟩:∃ Q:Nat,by_.tmod (nd:Int)=(Q:Int)∧Q < nd:=by
                have h1:=Jw (nd:Int) hby.1
                have h2:=Jv by_ (show (0:Int) < (nd:Int) by omega)
                exact ⟨(by_.tmod (nd:Int)).toNat,by omega,by omega⟩
              obtain ⟨dq,hdq,hdr0⟩:=hD Q hQlt
              go_region_o
              all_goals go_wp2_with fail
              all_goals have hwb:IntKind.i64.wrap by_=by_:=by rw [JK];omega
              all_goals have hQ1:(Q:Int) < (nd:Int):=by omega
              all_goals have s2:wr.drew.drew.cell? ⟨gI,J * 4+2,none⟩=some (.slice (some ⟨bD,oD,none⟩) nd dc):=u2
              all_goals have s3:wr.drew.drew.cell? ⟨bD,oD+Q,none⟩=some (.int .u8 dq):=(Lib.cell_of_heap hcD _).trans hdq
              all_goals have s3':wr.cell? ⟨bD,oD+Q,none⟩=some (.int .u8 dq):=(Lib.cell_of_heap hcD _).trans hdq
              all_goals have hfA:∀ j,wr.drew.drew.frozen? ⟨bD,j,none⟩=false:=fun j=>Lib.frozen_of_heap hcD j
              all_goals go_region_o
              all_goals go_wp2
              all_goals go_ret
              all_goals exact ⟨_,rfl,(hL.setCell (p:=⟨bD,oD+Q,none⟩) hbD _).drew.drew,(TX.w5 hTX hcD (xor_range _ _)).ev (Ev.heap rfl)⟩
        · go_wp2_with fail
          · go_ret
            exact ⟨_,rfl,hL,hTX⟩
          · have hne:ts[I].length≠0:=by
              intro h
              have:¬ ((ts[I].length:Int) == 0)=true:=by first | assumption | simp_all
              exact this (by rw [h];rfl)
            obtain ⟨gI,J,curI,R,kv,dv,bb,hp,hlo,hJlt,hJ,hblk,f0,hR,f1,hkv,f2,hdv,f3⟩:=hcom hne
            have hTI2:TT wr w.heap.size (.slice pI ts[I].length qI):=by rw [← hTI];exact hTTs (.slice pI tI.length qI) (by rw [← hvI,ja,jA (show I < cs.length by omega)];exact jm _)
            obtain ⟨da,nd,dc,rfl,hdr⟩:=hdv
            have hdv:TB wr w.heap.size (.slice da nd dc):=⟨_,_,_,rfl,hdr⟩
            subst hp
            have hcd:wr.drew.cell? ⟨G,I,none⟩=some (.slice (some ⟨gI,0,none⟩) ts[I].length qI):=by rw [← hTI];exact hcI
            have hc1:wr.cell? ⟨G,I,none⟩=some (.slice (some ⟨gI,0,none⟩) ts[I].length qI):=hcd
            have hfI:∀ j,wr.drew.frozen? ⟨gI,j,none⟩=false:=fun j=>Lib.frozen_of_heap hblk j
            have hfI1:∀ j,wr.frozen? ⟨gI,j,none⟩=false:=hfI
            have hfG:∀ j,wr.drew.frozen? ⟨G,j,none⟩=false:=fun j=>Lib.frozen_of_heap hGb j
            have u0:wr.cell? ⟨gI,J * 4,none⟩=some (.int .i64 R):=(Lib.cell_of_heap hblk _).trans f0
            have u1:wr.cell? ⟨gI,J * 4+1,none⟩=some kv:=(Lib.cell_of_heap hblk _).trans f1
            have u2:wr.cell? ⟨gI,J * 4+2,none⟩=some (.slice da nd dc):=(Lib.cell_of_heap hblk _).trans f2
            have u3:wr.cell? ⟨gI,J * 4+3,none⟩=some (.bool bb):=(Lib.cell_of_heap hblk _).trans f3
            have t0:wr.drew.cell? ⟨gI,J * 4,none⟩=some (.int .i64 R):=u0
            have t1:wr.drew.cell? ⟨gI,J * 4+1,none⟩=some kv:=u1
            have t2:wr.drew.cell? ⟨gI,J * 4+2,none⟩=some (.slice da nd dc):=u2
            have t3:wr.drew.cell? ⟨gI,J * 4+3,none⟩=some (.bool bb):=u3
            have hle:ts[I].length≤qI:=by
              obtain ⟨a',n',c',e,_,h1,_⟩:=hTI2
              simp only [Value.slice.injEq] at e
              obtain ⟨_,rfl,rfl⟩:=e
              exact h1
            obtain ⟨M,hM,hMlt⟩:∃ M:Nat,by_.tmod ((nd:Int)+1)=(M:Int)∧M≤nd:=by
              have h1:=Jw ((nd:Int)+1) hby.1
              have h2:=Jv by_ (show (0:Int) < (nd:Int)+1 by omega)
              exact ⟨(by_.tmod ((nd:Int)+1)).toNat,by omega,by omega⟩
            clear hcom hvI hoI hgI hrI
            rcases Jc nd with hz | hpos
            · subst hz
              go_region_o
              all_goals go_wp2
              all_goals go_ret
              all_goals exact ⟨_,rfl,hL.drew,hTX.ev (Ev.heap rfl)⟩
            · obtain ⟨bD,oD,curD,rfl,hbD,hcD,hD⟩:=hdr.2.2 hpos
              obtain ⟨Q,hQ,hQlt⟩:∃ Q:Nat,by_.tmod (nd:Int)=(Q:Int)∧Q < nd:=by
                have h1:=Jw (nd:Int) hby.1
                have h2:=Jv by_ (show (0:Int) < (nd:Int) by omega)
                exact ⟨(by_.tmod (nd:Int)).toNat,by omega,by omega⟩
              obtain ⟨dq,hdq,hdr0⟩:=hD Q hQlt
              go_region_o
              all_goals go_wp2_with fail
              all_goals have hwb:IntKind.i64.wrap by_=by_:=by rw [JK];omega
              all_goals have hQ1:(Q:Int) < (nd:Int):=by omega
              all_goals have s2:wr.drew.drew.cell? ⟨gI,J * 4+2,none⟩=some (.slice (some ⟨bD,oD,none⟩) nd dc):=u2
              all_goals have s3:wr.drew.drew.cell? ⟨bD,oD+Q,none⟩=some (.int .u8 dq):=(Lib.cell_of_heap hcD _).trans hdq
              all_goals have s3':wr.cell? ⟨bD,oD+Q,none⟩=some (.int .u8 dq):=(Lib.cell_of_heap hcD _).trans hdq
              all_goals have hfA:∀ j,wr.drew.drew.frozen? ⟨bD,j,none⟩=false:=fun j=>Lib.frozen_of_heap hcD j
              all_goals go_region_o
              all_goals go_wp2
              all_goals go_ret
              all_goals exact ⟨_,rfl,(hL.setCell (p:=⟨bD,oD+Q,none⟩) hbD _).drew.drew,(TX.w5 hTX hcD (xor_range _ _)).ev (Ev.heap rfl)⟩
end Go.Proofs.Ytkebegfopnlkhaa
