/-
  Entries of the library that closed code calls; from a call to a law's answer.
-/
import Derived.Test.YtcdofkflbnpjjaaDoorK21
import Derived.Laws.Externs
import Derived.Lib.Bytealg
import Derived.ChangeShapes
import Derived.Deep.Slices
import Derived.OpenShut
import Derived.Carry
set_option linter.unusedVariables false
set_option linter.unusedSimpArgs false
set_option maxRecDepth 20000
namespace Go.KX
open Go.RowKit (Below)

/-! ## Entries -/
def kidx (c : Nat) : List UInt8 → Nat → Int
  | [], _ => -1
  | b :: r, i => bif Nat.beq b.toNat c then Int.ofNat i else kidx c r (i + 1)
def kcnt (c : Nat) : List UInt8 → Nat
  | [] => 0
  | b :: r => bif Nat.beq b.toNat c then kcnt c r + 1 else kcnt c r

theorem beq_byte (a c : UInt8) : Nat.beq a.toNat c.toNat = (a == c) := by
  by_cases h : a = c
  · subst h; simp
  · rw [beqF (fun e => h (UInt8.toNat.inj e))]
    simp [h]

theorem idx_eq (c : UInt8) : ∀ (l : List UInt8) (k : Nat), (match ((List.range l.length).find? fun i => l[i]! == c) with | some i => Int.ofNat (i + k) | none => -1) = kidx c.toNat l k
  | [], k => by simp [kidx]
  | b :: l, k => by
    have ih := idx_eq c l (k + 1)
    rw [show (b :: l).length = l.length + 1 from rfl, Go.Lib.find_range_succ]
    simp only [kidx, beq_byte]
    cases h : b == c
    · simp only [List.getElem!_cons_zero, h, List.getElem!_cons_succ, cond_false, Bool.false_eq_true, if_false]
      rw [← ih]
      cases (List.range l.length).find? fun i => l[i]! == c with
      | none => rfl
      | some i => simp only [Option.map_some]; congr 1; omega
    · simp [h]

theorem firstIdx_eq (b : ByteArray) (c : UInt8) : firstIdx b c = kidx c.toNat b.data.toList 0 := by
  rw [← idx_eq]
  unfold firstIdx
  have e : b.size = b.data.toList.length := rfl
  rw [e]
  have h2 : (fun (i : Nat) => b[i]! == c) = fun (i : Nat) => b.data.toList[i]! == c := by
    funext (i : Nat)
    have : b[i]! = b.data[i]! := by
      by_cases h : i < b.size
      · rw [getElem!_pos b i h, getElem!_pos b.data i h]; rfl
      · rw [getElem!_neg b i h, getElem!_neg b.data i h]
    rw [this, Array.getElem!_toList]
  rw [h2]
  cases (List.range b.data.toList.length).find? fun i => b.data.toList[i]! == c <;> rfl

theorem cnt_eq (c : UInt8) : ∀ l : List UInt8, Go.Lib.countByte l c = kcnt c.toNat l
  | [] => by simp [Go.Lib.countByte, kcnt]
  | b :: l => by
    have ih := cnt_eq c l
    simp only [Go.Lib.countByte, kcnt, beq_byte] at *
    rw [List.count_cons, ih]
    cases b == c <;> simp

def kIndexByte : List KV → Option KV
  | [.str s, .int .u8 c] => some (.int .i64 (kidx c.toNat.toUInt8.toNat s 0))
  | _ => none
def kCountString : List KV → Option KV
  | [.str s, .int .u8 c] => some (.int .i64 (Int.ofNat (kcnt c.toNat.toUInt8.toNat s)))
  | _ => none

/-- an entry answers what its model does -/
def EntryOk (P : Program) (g : FuncId) (e : List KV → Option KV) : Prop :=
  ∀ args v, e args = some v → ∀ (ρ : Ren) (vs : List Value) (w : World), VRs ρ args vs → ∃ u, (callFunc g vs.toArray).run P w = .ok (.value u) w ∧ VR ρ v u

variable {P : Program}

theorem entry_str_byte {g : FuncId} {fn : Func} {e : Array Value → Sem Value} {k : List KV → Option KV} (hf : P.funcs[g]? = some fn) (hname : (fn.name == "runtime.NumGoroutine") = false)
    (hb : fn.body.isNone = true) (hn : Extern.findNext fn = none) (he : Extern.find fn = some e)
    (hk : ∀ args v, k args = some v → ∃ s c, args = [.str s, .int .u8 c])
    (hr : ∀ (s : ByteArray) (c : Int) (w : World) v, k [.str s.data.toList, .int .u8 c] = some v → ∃ n, v = .int .i64 n ∧ (e #[.string s, .int .u8 c]).run P w = .ok (.int .i64 n) w) : EntryOk P g k := by
  intro args v hv ρ vs w hvs
  obtain ⟨s, c, rfl⟩ := hk _ _ hv
  match vs, hvs with
  | [a, b], hvs =>
    have h0 := hvs.2 0 _ a rfl rfl
    have h1 := hvs.2 1 _ b rfl rfl
    cases h0 with | str _ bs e1 =>
    cases h1 with | int _ _ =>
    subst e1
    obtain ⟨n, rfl, h2⟩ := hr bs c w _ hv
    refine ⟨.int .i64 n, ?_, .int _ _⟩
    rw [run_callFunc_extern hf hname hb hn he]
    rw [show [Value.string bs, Value.int .u8 c].toArray = #[.string bs, .int .u8 c] from rfl, h2]
    rfl
  | [], hvs => exact absurd hvs.1 (by simp)
  | [a], hvs => exact absurd hvs.1 (by simp)
  | a :: b :: c :: r, hvs => exact absurd hvs.1 (by simp)

theorem entry_indexByte {g : FuncId} {fn : Func} (hf : P.funcs[g]? = some fn) (hname : (fn.name == "runtime.NumGoroutine") = false)
    (hb : fn.body.isNone = true) (hn : Extern.findNext fn = none) (he : Extern.find fn = some Extern.BytealgIndexByte.indexByte) : EntryOk P g kIndexByte := by
  refine entry_str_byte hf hname hb hn he (fun args v h => ?_) (fun s c w v h => ?_)
  · unfold kIndexByte at h
    split at h
    · exact ⟨_, _, rfl⟩
    · cases h
  · simp only [kIndexByte, Option.some.injEq] at h
    subst h
    refine ⟨_, rfl, ?_⟩
    rw [run_indexByte_string, firstIdx_eq]

theorem entry_countString {g : FuncId} {fn : Func} (hf : P.funcs[g]? = some fn) (hname : (fn.name == "runtime.NumGoroutine") = false)
    (hb : fn.body.isNone = true) (hn : Extern.findNext fn = none) (he : Extern.find fn = some Extern.BytealgCount.count) : EntryOk P g kCountString := by
  refine entry_str_byte hf hname hb hn he (fun args v h => ?_) (fun s c w v h => ?_)
  · unfold kCountString at h
    split at h
    · exact ⟨_, _, rfl⟩
    · cases h
  · simp only [kCountString, Option.some.injEq] at h
    subst h
    refine ⟨_, rfl, ?_⟩
    rw [Go.Lib.run_countString, cnt_eq]
    rfl

/-! ## A law's answer -/
open Go.ChangeShapes
section
variable {H : Type} {enc : TypeId × Value → H}

theorem stays_all {W W' : World} (hl : laidOutB P = true) (hb : Below W.heap.size W W') : ∀ {ts : List TypeId} {vs : List Value} {ds : List (DataW H)} {ps : List MemPlace}, (∀ t ∈ ts, P.readableRec t = true ∧ t < P.types.size) →
    DataW.TrodAll enc P W 0 (fun _ => true) true ts vs ds ps → (∀ x ∈ ps, x.block < W.heap.size) → ∀ sp : Nat → Bool, (∀ x ∈ ps, sp x.block = true) → DataW.TrodAll enc P W' 0 sp true ts vs ds ps
  | [], vs, ds, ps, ht, h, hlt, sp, hsp => by
    obtain ⟨rfl, rfl, rfl⟩ := trodAll_nil h
    exact rfl
  | t :: ts, vs, ds, ps, ht, h, hlt, sp, hsp => by
    obtain ⟨v0, vs0, d0, ds0, p0, q0, rfl, rfl, rfl, h0, r0⟩ := trodAll_cons h
    refine ⟨p0, q0, ?_, ?_, rfl⟩
    · exact WideElems.Trod_stays hl (ht t (by simp)).1 (ht t (by simp)).2 h0 (fun x hx => hb.same (hlt x (by simp [hx]))) (fun x hx => hsp x (by simp [hx]))
    · exact stays_all hl hb (fun u hu => ht u (by simp [hu])) r0 (fun x hx => hlt x (by simp [hx])) sp (fun x hx => hsp x (by simp [hx]))

/-- a law's result: 'true', the arguments as they were -/
theorem post_below {f : Func} {s : ChangeSpec} {apart fresh handsOn again : Bool} {W W' : World} {args : Array Value} {ds gs : List (DataW H)} {before : List MemPlace} {bt : TypeId} (hl : laidOutB P = true)
    (hr : ∀ t ∈ f.params.toList, P.readableRec t = true ∧ t < P.types.size) (hvars : s.vars = []) (hres : f.resultTypes = #[bt]) (hbt : P.underlying bt = some .bool)
    (hfn : ∀ ds : List (DataW H), ds.length = f.params.size → s.fn H ds = { results := [.lit (.bool true)], args := ds })
    (hW : DataW.Whole enc P f.params.toList s.vars apart W args.toList ds gs before) (hb : Below W.heap.size W W') : s.post enc P f apart fresh handsOn again W args (.bool true) W' := by
  have hlt := hW.lt
  have hW0 := hW
  obtain ⟨p, q, hA, hV, rfl, hz, hn⟩ := hW
  rw [hvars] at hV
  obtain ⟨rfl, rfl⟩ := trodVars_none hV
  have hlen : ∀ {ts : List TypeId} {vs : List Value} {ds : List (DataW H)} {ps : List MemPlace}, DataW.TrodAll enc P W 0 (fun _ => true) true ts vs ds ps → ds.length = ts.length := by
    intro ts
    induction ts with
    | nil => intro vs ds ps h; obtain ⟨_, rfl, _⟩ := trodAll_nil h; rfl
    | cons t ts ih =>
      intro vs ds ps h
      obtain ⟨v0, vs0, d0, ds0, p0, q0, rfl, rfl, rfl, h0, r0⟩ := trodAll_cons h
      simp [ih r0]
  have hfd := hfn ds (by simpa using hlen hA)
  simp only [List.append_nil] at hlt hz hn hfd ⊢
  have lt : ∀ x ∈ p, x.block < W.heap.size := fun x hx => hlt x (by simpa using hx)
  have stay := stays_all hl hb hr hA lt
  have hrl : (Value.bool true).resultList f.resultTypes.size = [.bool true] := by rw [hres]; rfl
  have rr : ∀ (b : Nat) (sp : Nat → Bool) (hd : Bool), DataW.TrodAll enc P W' b sp hd f.resultTypes.toList ((Value.bool true).resultList f.resultTypes.size) [.lit (.bool true)] [] := by
    intro b sp hd
    rw [hrl, hres]
    exact trodAll_mk1 (RowKit.shut_bool hbt _)
  refine ⟨ds, [], p ++ [], [], p, [], hW0, ?_, ?_, ?_, ?_, fun _ => ?_⟩
  · rw [List.append_nil, hfd]; exact rr _ _ _
  · rw [List.append_nil, hfd]; exact stay _ (fun x hx => by simpa using lt x hx)
  · rw [hvars, List.append_nil, hfd]; exact rfl
  · exact World.keptBut_mono (fun x hx => ⟨hx, .inr (.inl (by simpa using hx))⟩) (hb.frame _)
  · refine ⟨?_, _, [], ([] ++ p) ++ [], ⟨[] ++ p, [], trodAll_append (stay _ (fun _ _ => rfl)) (rr _ _ _), ?_, rfl, ?_, ?_⟩, ?_⟩
    · refine RowKit.ok_one hres rfl ?_
      simp only [Value.okWide, hbt, Cell.okWide, Cell.ok]
    · rw [hvars]; exact rfl
    · intro b off hx
      have hx' : MemPlace.cell b off ∈ p := by simpa using hx
      rw [hb.frozen (p := ⟨b, off, none⟩) (lt _ hx')]
      exact hz b off hx'
    · intro ha; simpa using hn ha
    · intro x hx _; simpa using hx

/-- A LAW WITHOUT ARGUMENTS, run in the kernel -/
theorem law_closed {E : Env} {g : FuncId} {f : Func} {s : ChangeSpec} {bt : TypeId} {fuel nx : Nat} (hE : EnvOk E) (hl : laidOutB E.P = true) (hps : f.params = #[]) (hvars : s.vars = []) (hres : f.resultTypes = #[bt]) (hbt : E.P.underlying bt = some .bool)
    (hfn : ∀ ds : List (DataW H), ds.length = f.params.size → s.fn H ds = { results := [.lit (.bool true)], args := ds })
    (h : (match run E fuel (.call g [] .e nx) with | some rs => rs.all fun r => isTrue r.v | none => false) = true)
    {W : World} {args : Array Value} {ds gs : List (DataW H)} {before : List MemPlace} (hW : DataW.Whole enc E.P f.params.toList s.vars false W args.toList ds gs before) :
    Calls E.P g args W fun e W' => ∃ v, e = .returned v ∧ s.post enc E.P f false true false false W args v W' := by
  have hargs : args = #[] := by
    obtain ⟨p, q, hA, hV, _, _, _⟩ := id hW
    rw [hps] at hA
    obtain ⟨h1, _, _⟩ := trodAll_nil hA
    exact Array.ext' (by simpa using h1)
  subst hargs
  refine (closed_true hE h W).mono fun e W' ⟨he, hb⟩ => ⟨_, he, post_below hl (fun t ht => ?_) hvars hres hbt hfn hW hb⟩
  rw [hps] at ht
  simp at ht
end
end Go.KX
