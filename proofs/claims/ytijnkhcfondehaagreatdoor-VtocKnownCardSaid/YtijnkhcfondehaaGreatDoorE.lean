/- Text. -/
import Derived.Test.YtijnkhcfondehaaGreatDoorAE21
import Derived.Test.YtijnkhcfondehaaGreatDoorF
set_option linter.unusedSimpArgs false
set_option linter.unusedVariables false
set_option maxRecDepth 100000
namespace Go.Proofs.YtijnkhcfondehaaGreatDoor
open Go.AE
def N0:Nat:=4194304
def val (x:aj0):Bool:=decide (0≤x.At∧1≤x.Len∧x.At < 512∧x.Len≤512 - x.At)
theorem few:∀ {m:Nat} {s:List Int},s.Nodup→(∀ k∈s,0≤k∧k < (m:Int))→s.length≤m
 | 0,s,hn,hr=>by
  cases s with
  | nil=>simp
  | cons k t=>have:=hr k (by simp);omega
 | m+1,s,hn,hr=>by
  have h:=few (m:=m) (s:=s.erase (m:Int)) (hn.erase _) (fun k hk=>by
   have h1:=(List.Nodup.mem_erase_iff hn).1 hk
   have:=hr k h1.2
   have:=h1.1
   omega)
  rw [List.length_erase] at h
  split at h <;> omega
def addT (out:List aj0) (k:Int):List aj0 :=
 if 0 < out.length∧(gt out (out.length - 1)).At+(gt out (out.length - 1)).Len=k then out.set (out.length - 1) ⟨(gt out (out.length - 1)).At,(gt out (out.length - 1)).Len+1⟩ else out ++ [⟨k,1⟩]
def nrm (p:List Bool):List aj0:=(List.range 512).foldl (fun out (k:Nat)=>if gt p k then addT out (k:Int) else out) []
def isL (r:List aj0) (k:Nat):Prop:=k < r.length∧(∀ j,j < r.length→(gt r j).Len≤(gt r k).Len)∧∀ j,j < k→(gt r j).Len < (gt r k).Len
def cut (r:List aj0) (k:Nat) (w:Int):List aj0:=if (gt r k).Len=w then r.eraseIdx k else r.set k ⟨(gt r k).At+w,(gt r k).Len - w⟩
def apart (x y:aj0):Prop:=x.At+x.Len≤y.At
def mn (a b:Int):Int:=if a < b then a else b
def fr (m:Int):Int→List aj0→List aj0
 | a,[]=>if a < m then [⟨a,m - a⟩] else []
 | a,x :: l=>(if a < mn m x.At then [⟨a,mn m x.At - a⟩] else []) ++ fr m (x.At+x.Len) l
inductive Sel:Nat→List aj0→Int→Prop
 | zero (r:List aj0):Sel 0 r 0
 | nil (c:Nat):Sel c [] 0
 | step (c:Nat) (r:List aj0) (k:Nat) (s:Int) (h:isL r k) (hs:Sel c (r.eraseIdx k) s):Sel (c+1) r ((gt r k).Len+s)
def mx (w:Int):Int:=if 0 > w then 0 else w
def t0 (w:Int) (x:aj0):Int:=if (if x.Len < w then x.Len else w) > 0 then (if x.Len < w then x.Len else w) else 0
end Go.Proofs.YtijnkhcfondehaaGreatDoor
