/- Text. -/
import Derived.Test.YtijnkhcfondehaaGreatDoorE
import Derived.Test.YtijnkhcfondehaaGreatDoorM
import Derived.Test.YtijnkhcfondehaaGreatDoorFL
set_option linter.unusedSimpArgs false
set_option linter.unusedVariables false
set_option maxHeartbeats 8000000
set_option maxRecDepth 100000
open Go.IntKind renaming wrap→jc
namespace Go.Proofs.YtijnkhcfondehaaGreatDoor
open Go.AE
def letB (b:UInt8):Bool:=if (decide (((b.toNat:Nat):Int) ≥ 65))=true then (decide (((b.toNat:Nat):Int)≤90)) else false
def digB (b:UInt8):Bool:=if (decide (((b.toNat:Nat):Int) ≥ 48))=true then (decide (((b.toNat:Nat):Int)≤57)) else false
def parts:List UInt8→List (List UInt8)
 | []=>[[]]
 | b :: l=>if b=46 then [] :: parts l else match parts l with
  | p :: ps=>(b :: p) :: ps
  | []=>[[b]]
end Go.Proofs.YtijnkhcfondehaaGreatDoor
/-
 ch. 21: names by the specification; serials, empty tables.
-/
namespace Go.Proofs.YtijnkhcfondehaaGreatDoor
open Go.AE
def serB (s:List UInt8):Bool:=decide (1≤s.length) && decide (s.length≤6) && s.all (fun b=>letB b || digB b)
def inB (x lo hi:Int):Bool:=decide (lo≤x) && decide (x≤hi)
def gkq (s:List UInt8) (c h z:Int):Bool:=serB s && inB c 1 64 && inB h 1 8 && inB z 1 (jc .i64 (jc .i64 (c * h) - 1))
end Go.Proofs.YtijnkhcfondehaaGreatDoor
/-
 ch. 21: valid tables, by the program and by the specification.
-/
namespace Go.Proofs.YtijnkhcfondehaaGreatDoor
open Go.AE
def exts (l:List aja):List aj0:=l.flatMap (·.Extents)
end Go.Proofs.YtijnkhcfondehaaGreatDoor
/-
 ch. 21: Check is Valid; Free.
-/
namespace Go.Proofs.YtijnkhcfondehaaGreatDoor
open Go.AE
def head (v:aj9):Bool:=gkq v.Serial v.Cyls v.Heads v.Size
end Go.Proofs.YtijnkhcfondehaaGreatDoor
/-
 ch. 21: the order of names; where a label stands; copies.
-/
namespace Go.Proofs.YtijnkhcfondehaaGreatDoor
open Go.AE
end Go.Proofs.YtijnkhcfondehaaGreatDoor
/-
 ch. 21: tables with a label in another's place, tables without a label.
-/
namespace Go.Proofs.YtijnkhcfondehaaGreatDoor
open Go.AE
end Go.Proofs.YtijnkhcfondehaaGreatDoor
/-
 ch. 21: Create and Extend, by the program and by the specification.
-/
namespace Go.Proofs.YtijnkhcfondehaaGreatDoor
open Go.AE
def tz:aj9:=⟨[],0,0,0,[]⟩
end Go.Proofs.YtijnkhcfondehaaGreatDoor
/-
 ch. 21: Release, Update, Scratch and Rename, by the program and by the specification.
-/
namespace Go.Proofs.YtijnkhcfondehaaGreatDoor
open Go.AE Go.Sort
end Go.Proofs.YtijnkhcfondehaaGreatDoor
/-
 ch. 21: Rename; every change is what the specification does.
-/
namespace Go.Proofs.YtijnkhcfondehaaGreatDoor
open Go.AE Go.Sort
end Go.Proofs.YtijnkhcfondehaaGreatDoor
/-
 ch. 21: runs of changes.
-/
namespace Go.Proofs.YtijnkhcfondehaaGreatDoor
open Go.AE
end Go.Proofs.YtijnkhcfondehaaGreatDoor
/-
 ch. 21: codes, texts, numbers of two bytes.
-/
namespace Go.Proofs.YtijnkhcfondehaaGreatDoor
open Go.AE
def okC (b:UInt8):Bool:=decide (32≤b.toNat∧b.toNat≤126)
def h2 (k:Int):List Int:=[jc .u8 (Int.fdiv k 256),jc .u8 k]
end Go.Proofs.YtijnkhcfondehaaGreatDoor
/-
 ch. 21: the records of labels.
-/
namespace Go.Proofs.YtijnkhcfondehaaGreatDoor
open Go.AE
structure OkD (d:aja):Prop where
 ext:d.Extents.length≤8
 name:d.Name.all okC=true
 nlen:d.Name.length≤44
 nums:∀ x∈[d.Dcb.Lrecl,d.Dcb.Blksize,d.Dcb.KeyPos,d.Used],0≤x∧x≤4611686018427387904
 exts:∀ x∈d.Extents,(0≤x.At∧x.At≤4611686018427387904)∧(0≤x.Len∧x.Len≤4611686018427387904)
end Go.Proofs.YtijnkhcfondehaaGreatDoor
/-
 ch. 21: the tracks of a table.
-/
namespace Go.Proofs.YtijnkhcfondehaaGreatDoor
open Go.AE
structure OkV (v:aj9):Prop where
 ser:v.Serial.all okC=true
 slen:v.Serial.length≤6
 nums:∀ x∈[v.Cyls,v.Heads,v.Size],0≤x∧x≤4611686018427387904
 size:1≤v.Size∧v.Size≤511
 sets:v.Sets.length≤64∧(v.Sets.length:Int)≤14 * v.Size
 lbl:∀ k,k < v.Sets.length→OkD (gt v.Sets k)
end Go.Proofs.YtijnkhcfondehaaGreatDoor
/-
 ch. 21: Encode is as specified; the law of checks.
-/
namespace Go.Proofs.YtijnkhcfondehaaGreatDoor
open Go.AE
end Go.Proofs.YtijnkhcfondehaaGreatDoor
/-
 ch. 21: the laws of checks, and the examples.
-/
namespace Go.Proofs.YtijnkhcfondehaaGreatDoor
open Go.AE
theorem dqf (hc:∀ i,i < 0→CanL Tryz.prog (([]:List (Bool×List Kd)).getD i (false,[])).2 (([]:List (List C)).getD i [])) (hb:cbss []≤2097152):bjz N0=some true:=by decide +kernel
end Go.Proofs.YtijnkhcfondehaaGreatDoor
