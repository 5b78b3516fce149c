/- Text. -/
import Derived.Test.YtcbcdjincgclaaaZ
set_option maxHeartbeats 1000000
set_option linter.unusedVariables false
set_option linter.unusedSimpArgs false
set_option maxRecDepth 100000
namespace Go.Proofs.Ytcbcdjincgclaaa
open Go.AE
theorem blocks_val (n:Nat) (c:TCase):∃ q:Nat,1≤q∧q≤32∧law33_Case__blocks n c=some (2048 * (q:Int)):=by
  unfold law33_Case__blocks
  generalize hx:(if (if 32 < c.Blocks then 32 else c.Blocks) > 1 then (if 32 < c.Blocks then 32 else c.Blocks) else 1)=x
  have:1≤x∧x≤32:=by
    subst hx
    split <;> split at * <;> omega
  refine ⟨x.toNat,by omega,by omega,?_⟩
  rw [wid (by omega)]
  congr 1
  omega
theorem new_val (n:Nat) (q:Nat) (h1:1≤q) (h2:q≤32):store_New_M1 n (2048 * (q:Int))=some (zreps (2048 * q) 0,zreps q 0,0)∧ref07_New_M1 n (2048 * (q:Int))=some (zreps (2048 * q) 0,zreps q 0):=by
  have ht:Int.tdiv (2048 * (q:Int)) 2048=q:=by
    rw [Int.tdiv_eq_ediv_of_nonneg (by omega)];omega
  have hm:=tmodB (q:Int)
  have e:(if (if (decide (2048 * (q:Int) < 2048))=true then true else (decide (2048 * (q:Int) > 65536)))=true then true else ((Int.tmod (2048 * (q:Int)) 2048) != 0))=false:=by
    rw [ite_tt,ite_tt,hm];simp only [Bool.or_eq_false_iff,decide_eq_false_iff_not,bne_self_eq_false,and_true];omega
  have e1:(2048 * (q:Int)).toNat=2048 * q:=by omega
  constructor
  · unfold store_New_M1
    rw [e,cond_false,ht,wid (n:=(q:Int)) (by omega),gd_pos _ (by omega),e1,Int.toNat_natCast]
  · unfold ref07_New_M1
    rw [e,cond_false,ht,wid (n:=(q:Int)) (by omega),gd_pos _ (by omega),e1,Int.toNat_natCast]
def mod0:TLoad:=⟨(List.set (zreps 28 0) 7 20),[(⟨4,4,false⟩:TReloc)],[(⟨(-1),0,0,16⟩:TSegment),(⟨0,16,16,8⟩:TSegment),(⟨0,16,24,4⟩:TSegment)],8⟩
theorem mod_val (n:Nat):law33_module n=some mod0:=by
  unfold law33_module mod0
  rw [gd_pos _ (by decide),gd_pos _ (by decide)]
theorem mod_good (n:Nat) (hn:4194304≤n):Good n mod0:=⟨by decide,by decide,by decide,hn,by unfold bytesOk;decide⟩
theorem mod_chk (c:Nat):module_CheckLoad (c+100) mod0=some 0:=by kernel_rfl
theorem mod_fit (c:Nat):fetch_Fit (c+100) mod0 2048=some 0:=by kernel_rfl
theorem mod_size (c:Nat):fetch_Size (c+100) mod0=some 24:=by kernel_rfl
theorem mod_path (c:Nat):pathM mod0 (c+100) 1=[0,1]:=by kernel_rfl
theorem mod_new:newL mod0 [0] [0,1]=[0,1]:=by decide +kernel
theorem mod_txt:gt (txt mod0 4096) 4=0∧gt (txt mod0 4096) 5=0∧gt (txt mod0 4096) 6=16∧gt (txt mod0 4096) 7=20:=by decide +kernel
theorem mod_keys (n:Nat) (hn:4194304≤n) (s:List Int) (hs:s.length=8192):loopF (fun (x:(List Int)×Int)=>ref33_Put_M1_b2 n s 4096 2048 3 mod0 x.1 x.2) n (zreps 4 0,4096)=some [0,0,7,0]:=by
  obtain ⟨f,rfl⟩:∃ f,n=f+2:=⟨n - 2,by omega⟩
  generalize hN:f+2=N
  have e1:IntKind.wrap .i64 (4096+2048)=6144:=by decide
  have e2:IntKind.wrap .i64 (IntKind.wrap .i64 (2 * 3)+1)=7:=by decide
  have h:ref07_Store__SetKey_M1 N s (zreps 4 0) 4096 7=some (true,[0,0,7,0]):=by
    unfold ref07_Store__SetKey_M1
    rw [hs]
    rfl
  rw [← hN,loopF_step (x':=([0,0,7,0],6144)),loopF_done (y:=[0,0,7,0])]
  · unfold ref33_Put_M1_b2
    rw [e1];rfl
  · unfold ref33_Put_M1_b2
    rw [e1,e2]
    simp only
    rw [hN,h];rfl
theorem works_val (n:Nat) (hn:4194304≤n):law33_works n=some true:=by
  have hG:=mod_good n hn
  obtain ⟨f,hf⟩:∃ f,n=f+100:=⟨n - 100,by omega⟩
  have m1:module_CheckLoad n mod0=some 0:=by rw [hf];exact mod_chk f
  have m2:fetch_Fit n mod0 2048=some 0:=by rw [hf];exact mod_fit f
  have m3:fetch_Size n mod0=some 24:=by rw [hf];exact mod_size f
  have m4:pathM mod0 n 1=[0,1]:=by rw [hf];exact mod_path f
  have n4:store_New_M1 n 8192=some (zreps 8192 0,zreps 4 0,0):=(new_val n 4 (by omega) (by omega)).1
  have hl0:(zreps 8192 (0:Int)).length=8192:=zreps_len _ _
  have hSI:SI (zreps 8192 (0:Int)) (zreps 4 0):=⟨by rw [zreps_len];omega,by rw [zreps_len];omega,by rw [zreps_len,zreps_len]⟩
  unfold law33_works
  rw [n4,Option.bind_some]
  simp only [bne_self_eq_false,cond_false,Bool.not_false,gd_t]
  rw [mod_val,Option.bind_some]
  rcases put_cases hG hSI 4096 2048 3 (by omega) with ⟨h,_⟩ | ⟨_,r,hr,h,_⟩ | ⟨_,_,hV,_,k',hkl,hk,h,_⟩
  · rw [hl0] at h
    exact absurd h (by
      have e:Int.tmod 4096 2048=0:=by decide
      have e':Int.tmod 2048 2048=0:=by decide
      unfold Bad;omega)
  · rw [m2] at h;exact absurd (Option.some.inj h).symm hr
  · have hc:(clrP (zreps 8192 0) 4096 2048).length=8192:=by rw [clrP_len,hl0]
    rw [mod_keys n hn _ hc] at hk
    obtain rfl:=Option.some.inj hk
    rw [h,Option.bind_some]
    simp only
    rw [Option.bind_some]
    generalize hs1:ldP mod0 4096 (clrP (zreps 8192 0) 4096 2048) 0=s1
    have hl1:s1.length=8192:=by rw [← hs1,ldP_len,hc]
    have hSI1:SI s1 [0,0,7,0]:=⟨by decide,by decide,by rw [hl1];rfl⟩
    have ent:(4096:Int)+mod0.Entry=4104:=rfl
    rcases seg_cases hG hSI1 4096 1 [0] (by simp) (by omega) with ⟨r,r0,_,_,r3⟩ | ⟨_,_,_,_,_,_,_,r1,_⟩
    · exact absurd (show SegOk n mod0 s1.length 4096 1 [0] from ⟨m1,by omega,⟨24,m3,by rw [hl1];omega⟩,by decide,by decide⟩) r3
    · rw [m4,mod_new] at r1
      rw [r1,Option.bind_some]
      simp only
      have hns:newS mod0 4096 [0] [0,1] s1=ldP mod0 4096 s1 1:=by
        unfold newS
        have:freshOf [0] [0,1]=[1]:=by decide
        rw [this];rfl
      rw [hns]
      have hl2:(ldP mod0 4096 s1 1).length=8192:=by rw [ldP_len,hl1]
      have hSI2:SI (ldP mod0 4096 s1 1) [0,0,7,0]:=⟨by decide,by decide,by rw [hl2];rfl⟩
      have hko:store_Store__KeyOf_M1 n (ldP mod0 4096 s1 1) [0,0,7,0] 4096=some (7,true):=by
        unfold store_Store__KeyOf_M1
        rw [hl2]
        rfl
      rw [hko,Option.bind_some,ent]
      have hcut:cut (ldP mod0 4096 s1 1) 4100 4=[0,0,16,20]:=by
        have hcl:(cut (ldP mod0 4096 s1 1) 4100 4).length=4:=by
          have:=cut_len (s:=ldP mod0 4096 s1 1) (a:=4100) (y:=4) (by omega) (by omega) (by rw [hl2];omega)
          omega
        have hb:∀ i:Nat,i < 4→gt (cut (ldP mod0 4096 s1 1) 4100 4) i=gt (txt mod0 4096) (4+i):=by
          intro i hi
          have e1:(gt mod0.Segments (1:Int).toNat)=⟨0,16,16,8⟩:=rfl
          have e0:(gt mod0.Segments (0:Int).toNat)=⟨-1,0,0,16⟩:=rfl
          rw [gt_cut (by omega),gt_ldP hG hV (by omega) (by omega) (i:=1) (by omega) (by decide) (by rw [e1,hl1];simp only;omega),e1,if_neg (by simp only;omega),← hs1,gt_ldP hG hV (by omega) (by omega) (i:=0) (by omega) (by decide) (by rw [e0,hc];simp only;omega),e0,if_pos (by simp only;omega)]
          congr 1
          simp only
          omega
        refine ext_gt (by rw [hcl];rfl) (fun i hi=>?_)
        rw [hcl] at hi
        rw [hb i hi]
        obtain ⟨t4,t5,t6,t7⟩:=mod_txt
        have:i=0∨i=1∨i=2∨i=3:=by omega
        rcases this with rfl | rfl | rfl | rfl
        · exact t4
        · exact t5
        · exact t6
        · exact t7
      simp only [show (if (if ((0:Int) == 0)=true then ((4104:Int) == 4104) else false)=true then ((7:Int) == 7) else false)=true from rfl,cond_true,gd_t]
      rw [bytesW n hSI2 4100 4 (by omega) (by omega) (by rw [hl2];omega),Option.bind_some,hcut,SameBytes_refl n _ (by decide) (by omega),Option.bind_some]
      rfl
end Go.Proofs.Ytcbcdjincgclaaa
