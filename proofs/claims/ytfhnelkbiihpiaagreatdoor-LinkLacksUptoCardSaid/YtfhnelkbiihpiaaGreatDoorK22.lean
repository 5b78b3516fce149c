/- An executor for closed code, proved. -/
import Derived.Test.YtfhnelkbiihpiaaGreatDoorK13
import Derived.RangeFuncCalls
import Derived.RangeFuncNested
import Derived.Laws.Externs
import Derived.Lib.Bytealg
import Derived.ChangeShapes
import Derived.Deep.Slices
import Derived.OpenShut
import Derived.Carry
set_option linter.unusedVariables false
set_option linter.unusedSimpArgs false
set_option maxRecDepth 20000
namespace Go.KX
open Go.RowKit (Below)
variable {P : Program} {F : List TypeId} {ρ : Ren} {w0 w : World} {hp : T KO}

/-! ## Equal values, equal states -/
mutual
theorem KV.eqb_eq : ∀ {a b : KV}, KV.eqb a b = true → a = b
  | .bool a, b, h => by cases b <;> simp [KV.eqb] at h; subst h; rfl
  | .int j a, b, h => by cases b <;> simp [KV.eqb] at h; obtain ⟨rfl, rfl⟩ := h; rfl
  | .str a, b, h => by cases b <;> simp [KV.eqb] at h; subst h; rfl
  | .nilp, b, h => by cases b <;> simp [KV.eqb] at h; rfl
  | .ptr a i, b, h => by cases b <;> simp [KV.eqb] at h; obtain ⟨rfl, rfl⟩ := h; rfl
  | .nilsl, b, h => by cases b <;> simp [KV.eqb] at h; rfl
  | .sl a i l c, b, h => by cases b <;> simp [KV.eqb] at h; obtain ⟨⟨⟨rfl, rfl⟩, rfl⟩, rfl⟩ := h; rfl
  | .slo a i l c k, b, h => by cases b <;> simp [KV.eqb] at h; obtain ⟨⟨⟨⟨rfl, rfl⟩, rfl⟩, rfl⟩, rfl⟩ := h; rfl
  | .slz, b, h => by cases b <;> simp [KV.eqb] at h; rfl
  | .nilmap, b, h => by cases b <;> simp [KV.eqb] at h; rfl
  | .map a, b, h => by cases b <;> simp [KV.eqb] at h; subst h; rfl
  | .nilf, b, h => by cases b <;> simp [KV.eqb] at h; rfl
  | .fn f xs ys, b, h => by
    cases b <;> simp [KV.eqb] at h
    obtain ⟨⟨rfl, h1⟩, h2⟩ := h
    rw [KV.eqs_eq h1, KV.eqs_eq h2]
  | .yld a, b, h => by cases b <;> simp [KV.eqb] at h; subst h; rfl
  | .agg xs, b, h => by cases b <;> simp [KV.eqb] at h; rw [KV.eqs_eq h]
  | .tup xs, b, h => by cases b <;> simp [KV.eqb] at h; rw [KV.eqs_eq h]
theorem KV.eqs_eq : ∀ {a b : List KV}, KV.eqs a b = true → a = b
  | [], b, h => by cases b <;> simp [KV.eqs] at h; rfl
  | x :: xs, b, h => by
    cases b with
    | nil => simp [KV.eqs] at h
    | cons y ys =>
      simp [KV.eqs] at h
      rw [KV.eqb_eq h.1, KV.eqs_eq h.2]
end

theorem leqb_eq {α : Type} {f : α → α → Bool} (hf : ∀ a b, f a b = true → a = b) : ∀ {a b : List α}, leqb f a b = true → a = b
  | [], [], _ => rfl
  | x :: xs, y :: ys, h => by
    simp only [leqb, Bool.and_eq_true] at h
    rw [hf _ _ h.1, leqb_eq hf h.2]
  | [], _ :: _, h => by simp [leqb] at h
  | _ :: _, [], h => by simp [leqb] at h
theorem oeqb_eq {α : Type} {f : α → α → Bool} (hf : ∀ a b, f a b = true → a = b) : ∀ {a b : Option α}, oeqb f a b = true → a = b
  | none, none, _ => rfl
  | some x, some y, h => by rw [hf x y h]
  | none, some _, h => by simp [oeqb] at h
  | some _, none, h => by simp [oeqb] at h
theorem nbeq_eq (a b : Nat) (h : Nat.beq a b = true) : a = b := beqT h
theorem KE.eqb_eq (a b : KE) (h : KE.eqb a b = true) : a = b := by
  obtain ⟨k, v, n⟩ := a
  obtain ⟨k', v', n'⟩ := b
  simp only [KE.eqb, Bool.and_eq_true] at h
  rw [KV.eqb_eq h.1.1, KV.eqb_eq h.1.2, beqT h.2]
theorem KO.eqb_eq (a b : KO) (h : KO.eqb a b = true) : a = b := by
  cases a <;> cases b <;> simp only [KO.eqb, Bool.and_eq_true, reduceCtorEq, Bool.false_eq_true] at h
  · rfl
  · rw [KV.eqs_eq h]
  · rw [leqb_eq KE.eqb_eq h.1, beqT h.2]
  · rw [oeqb_eq nbeq_eq h.1.1.1, beqT h.1.1.2, leqb_eq nbeq_eq h.1.2, beqT h.2]
  · simp at h; rw [h]
  · simp at h; rw [h.1, h.2]
theorem T.eqb_eq {α : Type} {f : α → α → Bool} (hf : ∀ a b, f a b = true → a = b) : ∀ {a b : T α}, T.eqb f a b = true → a = b
  | .e, .e, _ => rfl
  | .n v l r, .n v' l' r', h => by
    simp only [T.eqb, Bool.and_eq_true] at h
    rw [oeqb_eq hf h.1.1, T.eqb_eq hf h.1.2, T.eqb_eq hf h.2]
  | .e, .n .., h => by simp [T.eqb] at h
  | .n .., .e, h => by simp [T.eqb] at h
theorem KS.eqb_eq {a b : KS} (h : KS.eqb a b = true) : a = b := by
  obtain ⟨a1, a2, a3, a4⟩ := a
  obtain ⟨b1, b2, b3, b4⟩ := b
  simp only [KS.eqb, Bool.and_eq_true] at h
  rw [T.eqb_eq (fun _ _ => KV.eqb_eq) h.1.1.1, T.eqb_eq KO.eqb_eq h.1.1.2, beqT h.1.2, leqb_eq nbeq_eq h.2]

theorem merge_mem : ∀ {ss : List KS} {s : KS}, s ∈ ss → s ∈ merge ss
  | t :: ss, s, h => by
    simp only [merge]
    cases hm : (merge ss).any (KS.eqF t) with
    | true =>
      simp only [cond_true]
      rcases List.mem_cons.1 h with rfl | h
      · obtain ⟨u, hu, he⟩ := List.any_eq_true.1 hm
        rw [KS.eqF_eq] at he; rw [KS.eqb_eq he]; exact hu
      · exact merge_mem h
    | false =>
      simp only [cond_false]
      rcases List.mem_cons.1 h with rfl | h
      · exact List.mem_cons_self
      · exact List.mem_cons_of_mem _ (merge_mem h)

theorem bindL_some {α β : Type} {f : α → Option (List β)} : ∀ {l : List α} {r : List β}, bindL f l = some r → ∀ a ∈ l, ∃ bs, f a = some bs ∧ ∀ b ∈ bs, b ∈ r
  | a :: l, r, h, x, hx => by
    simp only [bindL] at h
    split at h
    · rename_i bs hb
      split at h
      · rename_i cs hc
        cases h
        rcases List.mem_cons.1 hx with rfl | hx
        · exact ⟨bs, hb, fun b hb => List.mem_append.2 (.inl hb)⟩
        · obtain ⟨bs', h1, h2⟩ := bindL_some hc x hx
          exact ⟨bs', h1, fun b hb => List.mem_append.2 (.inr (h2 b hb))⟩
      · cases h
    · cases h

/-! ## What an operation looks at -/
theorem omap_congr {α β : Type} {f g : α → Option β} : ∀ {l : List α}, (∀ a ∈ l, f a = g a) → omap f l = omap g l
  | [], _ => rfl
  | a :: l, h => by
    have h1 : ∀ b ∈ l, f b = g b := fun b hb => h b (List.mem_cons_of_mem _ hb)
    simp only [omap, h a List.mem_cons_self, omap_congr h1]

theorem parts_congr {v v' : Operand → Option KV} {ps : List (Nat × Operand)} (h : ∀ p ∈ ps, v p.2 = v' p.2) : parts v ps = parts v' ps := by
  unfold parts
  exact omap_congr fun p hp => by rw [h p hp]

theorem kop_congr {self : Nat} {o : Oper} {v v' : Operand → Option KV} (h : ∀ x ∈ o.op.operands, v x = v' x) : kop P F self hp v o = kop P F self hp v' o := by
  obtain ⟨dst, op, type, pos, after, guard⟩ := o
  have two : ∀ {a b : Operand}, (∀ x, x ∈ (#[a, b] : Array Operand) → v x = v' x) → v a = v' a ∧ v b = v' b := fun h => ⟨h _ (by simp), h _ (by simp)⟩
  cases op with
  | move x => simp only [kop]; rw [h x (by simp [Op.operands])]
  | assign x => simp only [kop]; rw [h x (by simp [Op.operands])]
  | pick c a b => simp only [kop]; rw [h c (by simp [Op.operands]), h a (by simp [Op.operands]), h b (by simp [Op.operands])]
  | alloc t => simp only [kop]
  | box t x => simp only [kop]; rw [h x (by simp [Op.operands])]
  | build t ps =>
    simp only [kop]
    rw [parts_congr (v := v) (v' := v') (fun p hp => h p.2 (by simp only [Op.operands]; simp; exact ⟨p.1, Array.mem_toList_iff.1 hp⟩))]
  | buildSlice t n ps =>
    simp only [kop]
    rw [parts_congr (v := v) (v' := v') (fun p hp => h p.2 (by simp only [Op.operands]; simp; exact ⟨p.1, Array.mem_toList_iff.1 hp⟩))]
  | insert t m k x => simp only [kop]; rw [h m (by simp [Op.operands]), h k (by simp [Op.operands]), h x (by simp [Op.operands])]
  | load t x => simp only [kop]; rw [h x (by simp [Op.operands])]
  | store t x y => simp only [kop]; rw [h x (by simp [Op.operands]), h y (by simp [Op.operands])]
  | nilCheck x => simp only [kop]; rw [h x (by simp [Op.operands])]
  | binOp op t x y yt => simp only [kop]; rw [h x (by simp [Op.operands]), h y (by simp [Op.operands])]
  | unOp op t x => simp only [kop]; rw [h x (by simp [Op.operands])]
  | convert s d x => simp only [kop]; rw [h x (by simp [Op.operands])]
  | makeFunc f a b =>
    cases f with
    | func f =>
      simp only [kop]
      rw [omap_congr (f := v) (g := v') (l := a.toList) (fun x hx => h x (by simp only [Op.operands]; exact Array.mem_append.2 (.inl (Array.mem_toList_iff.1 hx)))), omap_congr (f := v) (g := v') (l := b.toList) (fun x hx => h x (by simp only [Op.operands]; exact Array.mem_append.2 (.inr (Array.mem_toList_iff.1 hx))))]
    | _ => simp only [kop]
  | makeMap t r =>
    simp only [kop]
    cases r with
    | none => rfl
    | some x => simp only; rw [h x (by simp [Op.operands])]
  | makeSlice t l c => simp only [kop]; rw [h l (by simp [Op.operands]), h c (by simp [Op.operands])]
  | slice t x lo hi mx =>
    simp only [kop]
    rw [h x (by simp [Op.operands]), omap_congr (f := v) (g := v') (l := lo.toList) (fun y hy => h y (by simp only [Option.mem_toList] at hy; subst hy; simp [Op.operands])), omap_congr (f := v) (g := v') (l := hi.toList) (fun y hy => h y (by simp only [Option.mem_toList] at hy; subst hy; simp [Op.operands])), omap_congr (f := v) (g := v') (l := mx.toList) (fun y hy => h y (by simp only [Option.mem_toList] at hy; subst hy; simp [Op.operands]))]
  | fieldAddr t x f => simp only [kop]; rw [h x (by simp [Op.operands])]
  | field t x f => simp only [kop]; rw [h x (by simp [Op.operands])]
  | indexAddr t x i => simp only [kop]; rw [h x (by simp [Op.operands]), h i (by simp [Op.operands])]
  | index t x i => simp only [kop]; rw [h x (by simp [Op.operands]), h i (by simp [Op.operands])]
  | lookup t x k ok => simp only [kop]; rw [h x (by simp [Op.operands]), h k (by simp [Op.operands])]
  | mapUpdate t m k x => simp only [kop]; rw [h m (by simp [Op.operands]), h k (by simp [Op.operands]), h x (by simp [Op.operands])]
  | range t x => simp only [kop]; rw [h x (by simp [Op.operands])]
  | entry x => simp only [kop]; rw [h x (by simp [Op.operands])]
  | extract x i => simp only [kop]; rw [h x (by simp [Op.operands])]
  | call c =>
    obtain ⟨callee, args, argTypes⟩ := c
    cases callee with
    | builtin b =>
      simp only [kop]
      rw [omap_congr (f := v) (g := v') (l := args.toList) (fun x hx => h x (by simp only [Op.operands, Call.operands]; exact Array.mem_append.2 (.inr (Array.mem_toList_iff.1 hx))))]
    | _ => simp only [kop]
  | _ => simp only [kop]

theorem kbuiltin_quiet {self : Nat} {b : Builtin} {ts : List TypeId} {xs : List KV} {r : KV} {hp' : T KO} (hb : b = .len ∨ b = .cap ∨ b = .min ∨ b = .max) (h : kbuiltin P F self hp b ts xs = some (r, hp')) : hp' = hp := by
  unfold kbuiltin at h
  split at h
  · split at h <;> first | (cases h; rfl) | (cases h; done) | (split at h <;> first | (cases h; rfl) | (cases h; done))
  · split at h <;> first | (cases h; rfl) | (cases h; done)
  · rcases hb with hb | hb | hb | hb <;> cases hb
  · rcases hb with hb | hb | hb | hb <;> cases hb
  · rcases hb with hb | hb | hb | hb <;> cases hb
  · rcases hb with hb | hb | hb | hb <;> cases hb
  · rename_i x l
    cases hm : kfoldMM false x l with
    | none => rw [hm] at h; cases h
    | some z => rw [hm] at h; cases h; rfl
  · rename_i x l
    cases hm : kfoldMM true x l with
    | none => rw [hm] at h; cases h
    | some z => rw [hm] at h; cases h; rfl
  · cases h

theorem kquiet_hp {self : Nat} {o : Oper} {v : Operand → Option KV} {r : KV} {hp' : T KO} (hq : kquiet o = true) (h : kop P F self hp v o = some (r, hp')) : hp' = hp := by
  obtain ⟨dst, op, type, pos, after, guard⟩ := o
  cases op <;> simp only [kquiet, Bool.false_eq_true] at hq <;> simp only [kop] at h
  case call c =>
    obtain ⟨callee, args, argTypes⟩ := c
    cases callee with
    | builtin b =>
      simp only at hq h
      split at h
      · rename_i xs hxs
        refine kbuiltin_quiet ?_ h
        cases b <;> simp at hq ⊢
      · cases h
    | _ => simp at hq
  all_goals first
    | exact (pair_spec h).2
    | (split at h <;> first | exact (pair_spec h).2 | (cases h; rfl) | (cases h; done) | (obtain ⟨_, h2⟩ := bifS h; cases h2; rfl))
    | (rename_i f a b; cases f <;> simp only at h <;> first | (cases h; done) | (split at h <;> first | (cases h; rfl) | (cases h; done)))
end Go.KX

set_option linter.unusedVariables false
set_option linter.unusedSimpArgs false
set_option maxRecDepth 20000
namespace Go.KX
open Go.RowKit (Below)
variable {E : Env} {ρ : Ren} {w0 w : World} {hp : T KO}

structure EnvOk (E : Env) : Prop where
  flat : ∀ t ∈ E.F, flatOk E.P t = true
  mixed : E.P.follows .mixedOrders = true
  ext : ∀ g e, E.X g = some e → ∀ args v, e args = some v → ∀ (ρ : Ren) (vs : List Value) (w : World), VRs ρ args vs → ∃ u, (callFunc g vs.toArray).run E.P w = .ok (.value u) w ∧ VR ρ v u
  ents : ∀ g e, E.Y g = some e → (∀ args w, (callFunc g args).run E.P w = .ok (.enter g args) w) ∧ ∀ args v, e args = some v → ∀ (ρ : Ren) (vs : List Value) (w : World), VRs ρ args vs → Calls E.P g vs.toArray w fun x w' => ∃ u, x = .returned u ∧ VR ρ v u ∧ Below w.heap.size w w'

/-- the marks that a frame bears for its ranges over functions -/
def DR (ρ : Ren) : List Nat → List Deferred → Prop
  | [], [] => True
  | r :: rs, d :: ds => (∃ R m, ρ r = some (R, m) ∧ d = { target := .collected R, args := #[] }) ∧ DR ρ rs ds
  | _, _ => False
theorem DR.mono {ρ ρ' : Ren} (he : Ext ρ ρ') : ∀ {rs : List Nat} {ds : List Deferred}, DR ρ rs ds → DR ρ' rs ds
  | [], [], _ => trivial
  | _ :: _, _ :: _, ⟨⟨R, m, h1, h2⟩, h3⟩ => ⟨⟨R, m, he _ _ h1, h2⟩, h3.mono he⟩
  | [], _ :: _, h => h.elim
  | _ :: _, [], h => h.elim

def SR (ρ : Ren) (n : Nat) (w0 : World) (s : KS) (a : Act) (w : World) : Prop := TR ρ n s.tm a.tmps ∧ DR ρ s.df a.defers ∧ HR ρ w0 s.hp w

def exQ : Ex → Exit
  | .normal => .normal
  | .exit id => .exit id
  | .ret => .ret

def FenceOk (rd : Option Nat) (ρ : Ren) (F : Fence) : Prop :=
  match rd with
  | none => F = Fence.wide
  | some l => ∃ L m, ρ l = some (L, m) ∧ F = Fence.wide.inRound L
def FenceW (F : Fence) : Prop := F = Fence.wide ∨ ∃ L, F = Fence.wide.inRound L
theorem FenceOk.wd {rd : Option Nat} {F : Fence} (h : FenceOk rd ρ F) : FenceW F := by
  cases rd with
  | none => exact .inl h
  | some l => obtain ⟨L, m, _, h⟩ := h; exact .inr ⟨L, h⟩
theorem FenceOk.mono {rd : Option Nat} {F : Fence} {ρ' : Ren} (he : Ext ρ ρ') (h : FenceOk rd ρ F) : FenceOk rd ρ' F := by
  cases rd with
  | none => exact h
  | some l => obtain ⟨L, m, h1, h2⟩ := h; exact ⟨L, m, he _ _ h1, h2⟩
theorem FenceW.fn {F : Fence} (h : FenceW F) (f : FuncId) : F.fn f := by rcases h with rfl | ⟨L, rfl⟩ <;> trivial
theorem FenceW.depth {F : Fence} (h : FenceW F) {p : Prop} : F.depth.isSome = true → p := by
  rcases h with rfl | ⟨L, rfl⟩ <;> (intro h; exact absurd h (by simp [Fence.wide, Fence.inRound]))
theorem FenceW.calls {F : Fence} (h : FenceW F) {n : Nat} {P : Program} {f : FuncId} {args : Array Value} {w : World} {R : Ending → World → Prop} (hc : CallsIn Fence.wide n P f args w R) : CallsIn F n P f args w R := by
  rcases h with rfl | ⟨L, rfl⟩
  · exact hc
  · exact hc.inRound L

/-- where a call ends -/
def CallEnd (ρ : Ren) (w0 : World) (rs : List Res) (e : Ending) (w' : World) : Prop := ∃ r ∈ rs, ∃ ρ' v, e = .returned v ∧ Ext ρ ρ' ∧ VR ρ' r.v v ∧ HR ρ' w0 r.s.hp w'

def TaskOk (E : Env) : Task → List Res → Prop
  | .code rd n c s, rs => ∀ (ρ : Ren) (w0 : World) (F : Fence) (N : Nat) (a : Act) (w : World), FenceOk rd ρ F → SR ρ n w0 s a w → ∀ (Q : Exit → Act → World → Prop), (∀ r ∈ rs, ∀ ρ' a' w', Ext ρ ρ' → SR ρ' n w0 r.s a' w' → Q (exQ r.ex) a' w') → c.wpIn F N E.P Q a w
  | .call f args hp nx, rs => (∀ args w, (callFunc f args).run E.P w = .ok (.enter f args) w) ∧ ∀ (ρ : Ren) (w0 : World) (N : Nat) (vs : List Value) (w : World), VRs ρ args vs → HR ρ w0 hp w → CallsIn Fence.wide N E.P f vs.toArray w (CallEnd ρ w0 rs)
  | .round l args hp nx, rs => ∀ (ρ : Ren) (w0 : World) (F : Fence) (N L m : Nat) (vs : List Value) (w : World), ρ l = some (L, m) → FenceW F → VRs ρ args vs → HR ρ w0 hp w →
      ∃ f tmps assign body, (Instr.yield L vs.toArray).run E.P w = .ok (.round L f tmps assign body) w ∧ RoundIn F N E.P L f tmps assign body w (CallEnd ρ w0 rs)

def Sound (E : Env) (ih : Run) : Prop := ∀ t rs, ih t = some rs → TaskOk E t rs

theorem kval_keeps {ih : Run} {self : Nat} {o : Oper} {s : KS} {rs : List (KV × KS)} (h : kval E ih self o s = some rs) : ∀ r ∈ rs, r.2.tm = s.tm ∧ r.2.df = s.df := by
  have plain : ∀ {x : Option (KV × T KO)}, (x.map fun r => [(r.1, { s with hp := r.2 })]) = some rs → ∀ r ∈ rs, r.2.tm = s.tm ∧ r.2.df = s.df := by
    intro x hx
    cases x with
    | none => cases hx
    | some v =>
      simp only [Option.map_some, Option.some.injEq] at hx; subst hx
      intro r hr
      rw [List.mem_singleton.1 hr]
      exact ⟨rfl, rfl⟩
  rw [kval_eq] at h
  unfold kvalS at h
  split at h
  · rename_i c
    split at h
    · split at h
      · rename_i f xs hf hxs
        unfold kcall at h
        split at h
        · split at h
          · split at h
            · cases h; intro r hr; rw [List.mem_singleton.1 hr]; exact ⟨rfl, rfl⟩
            · cases h
          · split at h
            · cases h; intro r hr; obtain ⟨q, _, rfl⟩ := List.mem_map.1 hr; exact ⟨rfl, rfl⟩
            · cases h
        · split at h
          · cases h; intro r hr; obtain ⟨q, _, rfl⟩ := List.mem_map.1 hr; exact ⟨rfl, rfl⟩
          · cases h
        · cases h
      · cases h
    · exact plain h
  · split at h
    · rename_i x hx
      cases hk : knext s.hp x with
      | none => rw [hk] at h; cases h
      | some l =>
        rw [hk] at h
        simp only [Option.map_some, Option.some.injEq] at h; subst h
        intro r hr; obtain ⟨q, _, rfl⟩ := List.mem_map.1 hr; exact ⟨rfl, rfl⟩
    · cases h
  · split at h
    · exact plain h
    · cases h
  · exact plain h

theorem kop_noDefer {P : Program} {F : List TypeId} {self : Nat} {o : Oper} {v : Operand → Option KV} {r : KV × T KO} (h : kop P F self hp v o = some r) : ∀ c, o.op ≠ .defer c := by
  intro c hc
  obtain ⟨dst, op, type, pos, after, guard⟩ := o
  simp only at hc
  subst hc
  simp [kop] at h

theorem upon_end {F : Fence} {N : Nat} {o : Oper} {a : Act} {K : Act → World → Prop} {Q : Exit → Act → World → Prop} {r : KV} {hp' : T KO} (hF : FenceW F) (hnd : ∀ c, o.op ≠ .defer c) (he : OpEnd E.P ρ w0 w (execOp a.eval o) r hp')
    (hK : ∀ ρ' u w', Ext ρ ρ' → VR ρ' r u → HR ρ' w0 hp' w' → K (a.put o.dst u) w') : o.wpIn F N E.P a w K Q := by
  obtain ⟨nx, u, w', ρ', h1, h2, h3, h4, h5⟩ := he
  refine ⟨fun f _ => hF.fn f, ?_⟩
  rw [Oper.semAt_eq _ _ _ hnd, h1]
  rcases h2 with rfl | ⟨rfl, rfl⟩
  · rw [Oper.uponIn_value]; exact hK ρ' u w' h5 h3 h4
  · rw [Oper.uponIn_skip]; exact hK ρ' _ w' h5 h3 h4

theorem kval_sound (hE : EnvOk E) {ih : Run} (hih : Sound E ih) (hHR : HR ρ w0 hp w) {s : KS} (hs : s.hp = hp) {o : Oper} {a : Act} (ha : ∀ x ∈ o.op.operands, ∀ k, kopd s x = some k → VR ρ k (a.eval x)) {F : Fence} {N : Nat} (hF : FenceW F) {self : Nat} {rs : List (KV × KS)} (hk : kval E ih self o s = some rs)
    {K : Act → World → Prop} {Q : Exit → Act → World → Prop} (hK : ∀ r ∈ rs, ∀ ρ' u w', Ext ρ ρ' → VR ρ' r.1 u → HR ρ' w0 r.2.hp w' → K (a.put o.dst u) w') : o.wpIn F N E.P a w K Q := by
  subst hs
  obtain ⟨dst, op, type, pos, after, guard⟩ := o
  have plain : (kop E.P E.F self s.hp (kopd s) ⟨dst, op, type, pos, after, guard⟩).map (fun r => [(r.1, { s with hp := r.2 })]) = some rs → (Oper.mk dst op type pos after guard).wpIn F N E.P a w K Q := by
    intro hx
    cases hq : kop E.P E.F self s.hp (kopd s) ⟨dst, op, type, pos, after, guard⟩ with
    | none => rw [hq] at hx; cases hx
    | some r =>
      rw [hq] at hx
      simp only [Option.map_some, Option.some.injEq] at hx; subst hx
      exact upon_end hF (kop_noDefer hq) (kop_sound hE.flat hHR (fun x hx k hk => ha x hx k hk) hq) (fun ρ' u w' h1 h2 h3 => hK _ (List.mem_singleton.2 rfl) ρ' u w' h1 h2 h3)
  rw [kval_eq] at hk
  unfold kvalS at hk
  simp only at hk
  split at hk
  · rename_i c
    obtain ⟨callee, args, argTypes⟩ := c
    simp only at hk
    split at hk
    · rename_i f
      split at hk
      · rename_i fv xs hf hxs
        have hv := ha f (by simp [Op.operands, Call.operands]) _ hf
        have hxv := omap_opd (ρ := ρ) (v := kopd s) (e := a.eval) (fun x hx k hk => ha x (by simp only [Op.operands, Call.operands]; exact Array.mem_append.2 (.inr (Array.mem_toList_iff.1 hx))) k hk) hxs
        refine ⟨fun g _ => hF.fn g, ?_⟩
        rw [Oper.semAt_eq _ _ _ (fun c => by simp)]
        unfold kcall at hk
        split at hk
        · rename_i g first caps
          generalize hfe : a.eval f = fe at hv
          cases hv with | fn _ _ _ as bs h1 h2 h3 h4 =>
          have hall : VRs ρ (first ++ xs ++ caps) (as.toList ++ args.toList.map a.eval ++ bs.toList) := (VRs.append ⟨h1, h2⟩ hxv).append ⟨h3, h4⟩
          have harr : (as.toList ++ args.toList.map a.eval ++ bs.toList).toArray = (as ++ args.map a.eval) ++ bs := Array.ext' (by simp)
          have hrun : ∀ {r}, (callFunc g (as.toList ++ args.toList.map a.eval ++ bs.toList).toArray).run E.P w = r → (execOp a.eval ⟨dst, .call ⟨.value f, args, argTypes⟩, type, pos, after, guard⟩).run E.P w = r := by
            intro r hr
            rw [harr] at hr
            simp only [execOp, resolve, hfe, Deferred.ofValue, Sem.run_bind, Sem.run_pure, Result.andThen_ok, invoke, hr]
          split at hk
          · rename_i e hX
            split at hk
            · rename_i v hev
              cases hk
              obtain ⟨u, g1, g2⟩ := hE.ext g e hX _ _ hev ρ _ w hall
              rw [hrun g1, Oper.uponIn_value]
              exact hK _ (List.mem_singleton.2 rfl) ρ u w (.refl _) g2 hHR
            · cases hk
          · split at hk
            · rename_i rs' hih'
              cases hk
              obtain ⟨henter, hcall⟩ := hih _ _ hih'
              rw [hrun (henter _ _), Oper.uponIn_enter]
              refine ⟨hF.depth, hF.calls ((hcall ρ w0 (N - 1) _ w hall hHR).mono ?_)⟩
              rintro e w' ⟨r, hr, ρ', v, rfl, k1, k2, k3⟩
              exact hK (r.v, { s with hp := r.s.hp, nx := r.s.nx }) (List.mem_map.2 ⟨r, hr, rfl⟩) ρ' v w' k1 k2 k3
            · cases hk
        · rename_i l
          generalize hfe : a.eval f = fe at hv
          cases hv with | yld _ L m hL =>
          split at hk
          · rename_i rs' hih'
            cases hk
            obtain ⟨fn, tmps, assign, body, g1, g2⟩ := hih _ _ hih' ρ w0 F (N - 1) L m _ w hL hF hxv hHR
            have harr : (args.toList.map a.eval).toArray = #[] ++ args.map a.eval := Array.ext' (by simp)
            have hrun : (execOp a.eval ⟨dst, .call ⟨.value f, args, argTypes⟩, type, pos, after, guard⟩).run E.P w = .ok (.round L fn tmps assign body) w := by
              rw [harr] at g1
              simp only [execOp, resolve, hfe, Deferred.ofValue, Sem.run_bind, Sem.run_pure, Result.andThen_ok, invoke, g1]
            rw [hrun, Oper.uponIn_round]
            refine ⟨hF.depth, g2.mono ?_⟩
            rintro e w' ⟨r, hr, ρ', v, rfl, k1, k2, k3⟩
            exact hK (r.v, { s with hp := r.s.hp, nx := r.s.nx }) (List.mem_map.2 ⟨r, hr, rfl⟩) ρ' v w' k1 k2 k3
          · cases hk
        · cases hk
      · cases hk
    · exact plain hk
  · rename_i x
    split at hk
    · rename_i y hy
      cases hn : knext s.hp y with
      | none => rw [hn] at hk; cases hk
      | some l =>
        rw [hn] at hk
        simp only [Option.map_some, Option.some.injEq] at hk; subst hk
        obtain ⟨r, hr, u, w', h1, h2, h3⟩ := knext_sound (P := E.P) (ty := type) hHR (ha x (by simp [Op.operands]) _ hy) hn
        refine ⟨fun g _ => hF.fn g, ?_⟩
        rw [Oper.semAt_eq _ _ _ (fun c => by simp)]
        have hrun : (execOp a.eval ⟨dst, .next x false, type, pos, after, guard⟩).run E.P w = .ok (.value u) w' := run_value h1
        rw [hrun, Oper.uponIn_value]
        exact hK (r.1, { s with hp := r.2 }) (List.mem_map.2 ⟨r, hr, rfl⟩) ρ u w' (.refl _) h2 h3
    · cases hk
  · rename_i x
    split at hk
    · rename_i y hy
      cases hn : knextS s.hp y with
      | none => rw [hn] at hk; cases hk
      | some r =>
        rw [hn] at hk
        simp only [Option.map_some, Option.some.injEq] at hk; subst hk
        obtain ⟨u, w', h1, h2, h3⟩ := knextS_sound (P := E.P) (ty := type) hHR (ha x (by simp [Op.operands]) _ hy) hn
        refine ⟨fun g _ => hF.fn g, ?_⟩
        rw [Oper.semAt_eq _ _ _ (fun c => by simp)]
        have hrun : (execOp a.eval ⟨dst, .next x true, type, pos, after, guard⟩).run E.P w = .ok (.value u) w' := run_value h1
        rw [hrun, Oper.uponIn_value]
        exact hK _ (List.mem_singleton.2 rfl) ρ u w' (.refl _) h2 h3
    · cases hk
  · exact plain hk
end Go.KX

set_option linter.unusedVariables false
set_option linter.unusedSimpArgs false
set_option maxRecDepth 20000
namespace Go.KX
open Go.RowKit (Below)
variable {E : Env} {ρ : Ren} {w0 w : World} {hp : T KO}

/-- a frame's state, but for some temporaries -/
def SX (X : Nat → Prop) (ρ : Ren) (n : Nat) (w0 : World) (s : KS) (a : Act) (w : World) : Prop :=
  (a.tmps.size = n ∧ ∀ t, ¬ X t → VR ρ ((s.tm.get t).getD (.tup [])) (a.tmps.getD t undef)) ∧ DR ρ s.df a.defers ∧ HR ρ w0 s.hp w

theorem SX.of {n : Nat} {s : KS} {a : Act} (h : SR ρ n w0 s a w) (X : Nat → Prop) : SX X ρ n w0 s a w := ⟨⟨h.1.1, fun t _ => h.1.2 t⟩, h.2.1, h.2.2⟩
theorem SX.to {n : Nat} {s : KS} {a : Act} {X : Nat → Prop} (h : SX X ρ n w0 s a w) (hX : ∀ t, ¬ X t) : SR ρ n w0 s a w := ⟨⟨h.1.1, fun t => h.1.2 t (hX t)⟩, h.2.1, h.2.2⟩

theorem SX.opd {X : Nat → Prop} {n : Nat} {s : KS} {a : Act} (h : SX X ρ n w0 s a w) {x : Operand} (hx : ∀ t, x = .tmp t → ¬ X t) {k : KV} (hk : kopd s x = some k) : VR ρ k (a.eval x) := by
  cases x with
  | tmp t =>
    have ht := h.1.2 t (hx t rfl)
    simp only [kopd] at hk
    cases hg : s.tm.get t with
    | some v => rw [hg] at hk ht; simp only [Option.some.injEq, Option.getD_some] at hk ht; subst hk; exact ht
    | none => rw [hg] at hk ht; simp only [Option.some.injEq, Option.getD_none] at hk ht; subst hk; exact ht
  | const v => exact kc_sound hk
  | global g => simp [kopd] at hk
  | func f =>
    simp only [kopd, Option.some.injEq] at hk; subst hk
    exact .fn f [] [] #[] #[] rfl (fun i x y h => by simp at h) rfl (fun i x y h => by simp at h)

theorem opd_tmpsOf {ops : Array Oper} {o : Oper} {x : Operand} (hx : x ∈ o.op.operands) {t : Nat} (ht : x = .tmp t) : t ∈ tmpsOf ops o := by
  subst ht
  unfold tmpsOf
  exact List.mem_append.2 (.inl (List.mem_filterMap.2 ⟨.tmp t, Array.mem_toList_iff.2 hx, rfl⟩))

theorem wanted_eq {X : Nat → Prop} {n : Nat} {s : KS} {a : Act} (h : SX X ρ n w0 s a w) {ops : Array Oper} {o : Oper} (hx : ∀ t ∈ tmpsOf ops o, ¬ X t) : kwanted ops s o = Region.wanted o (yielded ops a.tmps) := by
  unfold kwanted Region.wanted
  cases hg : o.guard with
  | none => rfl
  | some g =>
    obtain ⟨j, want⟩ := g
    simp only
    cases hd : (ops[j]?).bind (·.dst) with
    | none => simp [yielded, hd]
    | some t =>
      have htm : t ∈ tmpsOf ops o := by
        unfold tmpsOf
        rw [hg]
        simp only [hd]
        exact List.mem_append.2 (.inr (by simp))
      have hv := h.1.2 t (hx t htm)
      simp only [yielded, hd, Option.bind_some]
      have hget : a.tmps.getD t undef = (a.tmps[t]?).getD undef := by simp [Array.getD_eq_getD_getElem?]
      rw [hget] at hv
      cases ht : a.tmps[t]? with
      | none =>
        rw [ht] at hv
        simp only [Option.getD_none] at hv
        cases hs : s.tm.get t with
        | none => rfl
        | some k =>
          rw [hs] at hv
          simp only [Option.getD_some] at hv
          cases k <;> first | rfl | (exfalso; revert hv; unfold undef; intro hv; cases hv)
      | some u =>
        rw [ht] at hv
        simp only [Option.getD_some] at hv
        cases hs : s.tm.get t with
        | none =>
          rw [hs] at hv
          simp only [Option.getD_none] at hv
          cases hv
          rfl
        | some k =>
          rw [hs] at hv
          simp only [Option.getD_some] at hv
          cases hv <;> first | rfl | (rename_i b; cases b <;> cases want <;> rfl)

theorem getD_set {a : Array Value} {d t : Nat} {v : Value} (hd : d < a.size) : (a.setIfInBounds d v).getD t undef = if t = d then v else a.getD t undef := by
  simp only [Array.getD_eq_getD_getElem?, Array.getElem?_setIfInBounds]
  by_cases e : d = t
  · subst e; simp [hd]
  · rw [if_neg e, if_neg (Ne.symm e)]

theorem put_defers (a : Act) (dst : Option Tmp) (v : Value) : (a.put dst v).defers = a.defers := by cases dst <;> rfl
theorem putD_hp (s : KS) (d : Option Nat) (v : KV) : (s.putD d v).hp = s.hp := by cases d <;> rfl
theorem putD_df (s : KS) (d : Option Nat) (v : KV) : (s.putD d v).df = s.df := by cases d <;> rfl

/-- an operation's result is put -/
theorem SX.put {X : Nat → Prop} {n : Nat} {s s1 : KS} {a : Act} (h : SX X ρ n w0 s a w) {ρ' : Ren} {w' : World} {d : Option Nat} {r : KV} {u : Value} (hd : dstOk n d = true) (he : Ext ρ ρ') (hv : VR ρ' r u) (htm : s1.tm = s.tm) (hdf : s1.df = s.df) (hh : HR ρ' w0 s1.hp w') :
    SX X ρ' n w0 (s1.putD d r) (a.put d u) w' ∧ ∀ t, d = some t → VR ρ' (((s1.putD d r).tm.get t).getD (.tup [])) ((a.put d u).tmps.getD t undef) := by
  refine ⟨⟨?_, ?_, by rw [putD_hp]; exact hh⟩, ?_⟩
  · cases d with
    | none => exact ⟨h.1.1, fun t ht => by have := (h.1.2 t ht).mono he; simpa [KS.putD, htm, Act.put] using this⟩
    | some t0 =>
      have hlt : t0 < a.tmps.size := by rw [h.1.1]; exact bleT hd
      refine ⟨by simp [Act.put, h.1.1], fun t ht => ?_⟩
      simp only [KS.putD, Act.put, htm, T.get_set]
      rw [getD_set hlt]
      by_cases e : t = t0
      · rw [if_pos e, if_pos e]; exact hv
      · rw [if_neg e, if_neg e]; exact (h.1.2 t ht).mono he
  · rw [putD_df, hdf, put_defers]
    exact h.2.1.mono he
  · intro t ht
    subst ht
    have hlt : t < a.tmps.size := by rw [h.1.1]; exact bleT hd
    simp only [KS.putD, Act.put, T.get_set, getD_set hlt, if_true]
    exact hv

theorem kstep_x (hE : EnvOk E) {ih : Run} (hih : Sound E ih) {X : Nat → Prop} {n base : Nat} {ops : Array Oper} {i : Nat} {s : KS} {ss : List KS} (hk : kstep E ih n base ops i s = some ss) {a : Act} (h : SX X ρ n w0 s a w) (hx : ∀ o, ops[i]? = some o → ∀ t ∈ tmpsOf ops o, ¬ X t)
    {F : Fence} {N : Nat} (hF : FenceW F) {K : Act → World → Prop} {Q : Exit → Act → World → Prop} (hK : ∀ s' ∈ ss, ∀ ρ' a' w', Ext ρ ρ' → SX X ρ' n w0 s' a' w' → (∀ o t, ops[i]? = some o → o.dst = some t → VR ρ' ((s'.tm.get t).getD (.tup [])) (a'.tmps.getD t undef)) → K a' w') :
    wpOpIn F N E.P ops Q i K a w := by
  unfold kstep at hk
  unfold wpOpIn
  cases ho : ops[i]? with
  | none =>
    rw [ho] at hk
    simp only [Option.some.injEq] at hk; subst hk
    exact hK s (List.mem_singleton.2 rfl) ρ a w (.refl _) h (fun o t e => by rw [ho] at e; cases e)
  | some o =>
    rw [ho] at hk
    simp only at hk ⊢
    obtain ⟨hd, hk⟩ := bifS hk
    have hxo := hx o ho
    rw [← wanted_eq h hxo]
    cases hw : kwanted ops s o with
    | false =>
      rw [hw] at hk
      simp only [cond_false, Option.some.injEq] at hk; subst hk
      simp only [Bool.false_eq_true, if_false]
      refine ⟨fun f _ => hF.fn f, ?_⟩
      obtain ⟨g1, g2⟩ := h.put (s1 := s) hd (.refl _) VR.undef rfl rfl h.2.2
      exact hK _ (List.mem_singleton.2 rfl) ρ _ w (.refl _) g1 (fun o' t e ht => by rw [ho] at e; cases e; exact g2 t ht)
    | true =>
      rw [hw] at hk
      simp only [cond_true] at hk
      simp only [if_true]
      split at hk
      · rename_i rs hrs
        simp only [Option.some.injEq] at hk; subst hk
        refine kval_sound hE hih h.2.2 rfl (fun x hx k hk => h.opd (fun t ht => hxo t (opd_tmpsOf hx ht)) hk) hF hrs (fun r hr ρ' u w' k1 k2 k3 => ?_)
        obtain ⟨e1, e2⟩ := kval_keeps hrs r hr
        obtain ⟨g1, g2⟩ := h.put (s1 := r.2) hd k1 k2 e1 e2 k3
        exact hK _ (List.mem_map.2 ⟨r, hr, rfl⟩) ρ' _ w' k1 g1 (fun o' t e ht => by rw [ho] at e; cases e; exact g2 t ht)
      · cases hk

/-- in the order of the text -/
theorem kops_sound (hE : EnvOk E) {ih : Run} (hih : Sound E ih) {n base : Nat} {ops : Array Oper} {F : Fence} {N : Nat} (hF : FenceW F) {Q : Exit → Act → World → Prop} : ∀ {is : List Nat} {s : KS} {ss : List KS} {ρ : Ren} {a : Act} {w : World}, kops E ih n base ops is s = some ss → SR ρ n w0 s a w →
    (∀ s' ∈ ss, ∀ ρ' a' w', Ext ρ ρ' → SR ρ' n w0 s' a' w' → Q .normal a' w') → wpOpsIn F N E.P ops Q is a w
  | [], s, ss, ρ, a, w, hk, h, hQ => by
    simp only [kops, Option.some.injEq] at hk; subst hk
    exact hQ s (List.mem_singleton.2 rfl) ρ a w (.refl _) h
  | i :: is, s, ss, ρ, a, w, hk, h, hQ => by
    simp only [kops] at hk
    rw [wpOpsIn_cons]
    split at hk
    · rename_i ss1 h1
      refine kstep_x hE hih h1 (SX.of h (fun _ => False)) (fun _ _ _ _ => id) hF (fun s' hs' ρ' a' w' k1 k2 _ => ?_)
      obtain ⟨bs, h2, h3⟩ := bindL_some hk s' hs'
      exact kops_sound hE hih hF h2 (k2.to (fun _ => id)) (fun s2 hs2 ρ2 a2 w2 j1 j2 => hQ s2 (h3 s2 hs2) ρ2 a2 w2 (k1.trans j1) j2)
    · cases hk
end Go.KX

set_option linter.unusedVariables false
set_option linter.unusedSimpArgs false
set_option maxRecDepth 20000
namespace Go.KX
open Go.RowKit (Below)
variable {E : Env} {ρ : Ren} {w0 w : World} {hp : T KO}

mutual
theorem KV.eqb_refl : ∀ a : KV, KV.eqb a a = true
  | .bool a => by simp [KV.eqb]
  | .int j a => by simp [KV.eqb]
  | .str a => by simp [KV.eqb]
  | .nilp => rfl
  | .ptr a i => by simp [KV.eqb]
  | .nilsl => rfl
  | .sl a i l c => by simp [KV.eqb]
  | .slo a i l c k => by simp [KV.eqb]
  | .slz => rfl
  | .nilmap => rfl
  | .map a => by simp [KV.eqb]
  | .nilf => rfl
  | .fn f xs ys => by simp [KV.eqb, KV.eqs_refl xs, KV.eqs_refl ys]
  | .yld a => by simp [KV.eqb]
  | .agg xs => by simp [KV.eqb, KV.eqs_refl xs]
  | .tup xs => by simp [KV.eqb, KV.eqs_refl xs]
theorem KV.eqs_refl : ∀ a : List KV, KV.eqs a a = true
  | [] => rfl
  | x :: xs => by simp [KV.eqs, KV.eqb_refl x, KV.eqs_refl xs]
end

/-! ## What may be put off -/
def Preds (ops : Array Oper) (A : Nat → Prop) (i : Nat) : Prop := ∀ o, ops[i]? = some o → ∀ e ∈ o.after, Region.binds .any e = true → A e.on

theorem hasPred_iff {o : Oper} {i : Nat} : hasPred o i = true ↔ ∃ e ∈ o.after, e.on = i ∧ Region.binds .any e = true := by
  unfold hasPred
  rw [Array.any_eq_true']
  constructor
  · rintro ⟨e, he, h⟩
    simp only [Bool.and_eq_true] at h
    exact ⟨e, he, beqT h.1, h.2⟩
  · rintro ⟨e, he, rfl, h⟩
    exact ⟨e, he, by simp [h]⟩

theorem ready_iff {ops : Array Oper} {L : Array Bool} {i : Nat} : i ∈ ready ops L ↔ i < ops.size ∧ L.getD i true = false ∧ Preds ops (fun p => L.getD p false = true) i := by
  unfold ready Region.ready
  rw [List.mem_filter, List.mem_range]
  constructor
  · rintro ⟨hi, h⟩
    have ho : ops[i]? = some ops[i] := Array.getElem?_eq_getElem hi
    rw [ho] at h
    simp only [Option.map_some, Option.getD_some, Bool.and_eq_true, Bool.not_eq_true'] at h
    refine ⟨hi, h.1, fun o ho' e he hb => ?_⟩
    rw [ho] at ho'; cases ho'
    have := (Array.all_eq_true'.1 h.2) e he
    rw [hb] at this
    simpa using this
  · rintro ⟨hi, h1, h2⟩
    have ho : ops[i]? = some ops[i] := Array.getElem?_eq_getElem hi
    refine ⟨hi, ?_⟩
    rw [ho]
    simp only [Option.map_some, Option.getD_some, Bool.and_eq_true, Bool.not_eq_true']
    refine ⟨h1, Array.all_eq_true'.2 fun e he => ?_⟩
    cases hb : Region.binds .any e with
    | false => rfl
    | true => have := h2 _ ho e he hb; simpa using this

structure PO (ops : Array Oper) (i : Nat) (o : Oper) (d : Nat) : Prop where
  op : ops[i]? = some o
  dst : o.dst = some d
  quiet : kquiet o = true
  own : d ∉ tmpsOf ops o
  other : ∀ j oj, ops[j]? = some oj → j ≠ i → oj.dst ≠ some d ∧ (d ∈ tmpsOf ops oj → hasPred oj i = true)

theorem putOff_spec {ops : Array Oper} {i : Nat} (h : putOff ops i = true) : ∃ o d, PO ops i o d := by
  unfold putOff at h
  split at h
  · rename_i o ho
    split at h
    · rename_i d hd
      simp only [Bool.and_eq_true, Bool.not_eq_true'] at h
      obtain ⟨h1, h2, h3⟩ := h
      refine ⟨o, d, ho, hd, h1, ?_, fun j oj hj hne => ?_⟩
      · intro hm
        have : (tmpsOf ops o).contains d = true := by simpa using hm
        rw [this] at h2; cases h2
      · have hmem : (oj, j) ∈ ops.toList.zipIdx := by
          rw [List.mem_zipIdx_iff_getElem?, Array.getElem?_toList]
          exact hj
        have := List.all_eq_true.1 h3 _ hmem
        simp only [Bool.or_eq_true, Bool.and_eq_true, Bool.not_eq_true'] at this
        rcases this with h | ⟨ha, hb⟩
        · exact absurd (beqT h) hne
        · refine ⟨fun e => by rw [e] at ha; simp at ha, fun hm => ?_⟩
          rcases hb with hb | hb
          · have : (tmpsOf ops oj).contains d = true := by simpa using hm
            rw [this] at hb; cases hb
          · exact hb
    · cases h
  · cases h

theorem getD_setB {L : Array Bool} {i j : Nat} {b : Bool} (hi : i < L.size) : (L.setIfInBounds i true).getD j b = if j = i then true else L.getD j b := by
  simp only [Array.getD_eq_getD_getElem?, Array.getElem?_setIfInBounds]
  by_cases e : i = j
  · subst e; simp [hi]
  · rw [if_neg e, if_neg (Ne.symm e)]

theorem getD_tf {L : Array Bool} {i : Nat} (hi : i < L.size) : L.getD i true = L.getD i false := by
  simp [Array.getD_eq_getD_getElem?, hi]
theorem getD_f_lt {L : Array Bool} {i : Nat} (h : L.getD i false = true) : i < L.size := by
  rcases Nat.lt_or_ge i L.size with h1 | h1
  · exact h1
  · simp [Array.getD_eq_getD_getElem?, Array.getElem?_eq_none h1] at h

/-- the program stands at L; the executor has put forward D -/
structure Inv (E : Env) (n base : Nat) (ops : Array Oper) (ρ : Ren) (w0 : World) (En L : Array Bool) (D : List Nat) (s : KS) (a : Act) (w : World) : Prop where
  sizeE : En.size = ops.size
  sizeL : L.size = ops.size
  eq : ∀ i, i < ops.size → (En.getD i true = true ↔ (L.getD i true = true ∨ i ∈ D))
  dis : ∀ i ∈ D, i < ops.size ∧ L.getD i true = false ∧ putOff ops i = true
  nodup : D.Nodup
  ord : ∀ D1 i D2, D = D1 ++ i :: D2 → Preds ops (fun p => L.getD p false = true ∨ p ∈ D1) i
  closed : ∀ i, i < ops.size → En.getD i true = true → Preds ops (fun p => En.getD p false = true) i
  sx : SX (fun t => ∃ i ∈ D, ∃ o, ops[i]? = some o ∧ o.dst = some t) ρ n w0 s a w
  again : ∀ i ∈ D, again1 E base ops i s = true
  dn : ∀ i ∈ D, ∀ o, ops[i]? = some o → dstOk n o.dst = true

theorem kval_quiet {ih : Run} {self : Nat} {o : Oper} {s : KS} (hq : kquiet o = true) : kval E ih self o s = (kop E.P E.F self s.hp (kopd s) o).map fun r => [(r.1, { s with hp := r.2 })] := by
  obtain ⟨dst, op, type, pos, after, guard⟩ := o
  rw [kval_eq]
  unfold kvalS
  cases op <;> simp only [kquiet, Bool.false_eq_true] at hq <;> try rfl
  rename_i c
  obtain ⟨callee, args, argTypes⟩ := c
  cases callee with
  | builtin b => rfl
  | _ => simp at hq

theorem kwanted_put {ops : Array Oper} {s : KS} {o : Oper} {d : Nat} {v : KV} (hd : d ∉ tmpsOf ops o) : kwanted ops (s.putD (some d) v) o = kwanted ops s o := by
  unfold kwanted
  cases hg : o.guard with
  | none => rfl
  | some g =>
    obtain ⟨j, want⟩ := g
    simp only
    cases hb : (ops[j]?).bind (·.dst) with
    | none => rfl
    | some t =>
      have htm : t ∈ tmpsOf ops o := by
        unfold tmpsOf
        rw [hg]
        simp only [hb]
        exact List.mem_append.2 (.inr (by simp))
      have : ¬ t = d := fun e => hd (e ▸ htm)
      simp only [KS.putD, T.get_set, if_neg this]

theorem kop_put {P : Program} {F : List TypeId} {ops : Array Oper} {s : KS} {o : Oper} {d self : Nat} {v : KV} (hd : d ∉ tmpsOf ops o) : kop P F self hp (kopd (s.putD (some d) v)) o = kop P F self hp (kopd s) o := by
  refine kop_congr fun x hx => ?_
  cases x with
  | tmp t =>
    have : ¬ t = d := fun e => hd (e ▸ opd_tmpsOf hx rfl)
    simp only [kopd, KS.putD, T.get_set, if_neg this]
  | _ => rfl

theorem again_put {base : Nat} {ops : Array Oper} {j : Nat} {s : KS} {d : Nat} {v : KV} (hj : ∀ oj, ops[j]? = some oj → oj.dst ≠ some d ∧ d ∉ tmpsOf ops oj) (h : again1 E base ops j s = true) : again1 E base ops j (s.putD (some d) v) = true := by
  rw [again1_eq] at h ⊢
  unfold again1S at h ⊢
  split at h
  · rename_i o ho
    obtain ⟨h1, h2⟩ := hj o ho
    split at h
    · rename_i dj hdj
      have hne : ¬ dj = d := fun e => h1 (by rw [hdj, e])
      have hg : (s.putD (some d) v).tm.get dj = s.tm.get dj := by simp only [KS.putD, T.get_set, if_neg hne]
      rw [hg, kwanted_put h2, show (s.putD (some d) v).hp = s.hp from rfl, kop_put h2]
      exact h
    · cases h
  · cases h

/-- the executor puts an operation forward -/
theorem Inv.eager {n base : Nat} {ops : Array Oper} {En L : Array Bool} {D : List Nat} {s s1 : KS} {a : Act} {ih : Run} {i : Nat} (h : Inv E n base ops ρ w0 En L D s a w) (hi : i ∈ ready ops En) (hq : putOff ops i = true) (hk : kstep E ih n base ops i s = some [s1]) :
    Inv E n base ops ρ w0 (En.setIfInBounds i true) L (D ++ [i]) s1 a w := by
  obtain ⟨hlt, hEi, hpr⟩ := ready_iff.1 hi
  obtain ⟨o, d, po⟩ := putOff_spec hq
  have hsE : i < En.size := by rw [h.sizeE]; exact hlt
  have hLi : L.getD i true = false := by
    cases hb : L.getD i true with
    | false => rfl
    | true => have := (h.eq i hlt).2 (.inl hb); rw [hEi] at this; cases this
  have hiD : i ∉ D := fun hm => by have := (h.eq i hlt).2 (.inr hm); rw [hEi] at this; cases this
  -- what the step does
  obtain ⟨v, hs1, hdn, hag⟩ : ∃ v, s1 = s.putD (some d) v ∧ dstOk n o.dst = true ∧ again1 E base ops i (s.putD (some d) v) = true := by
    unfold kstep at hk
    rw [po.op] at hk
    simp only at hk
    obtain ⟨hdn, hk⟩ := bifS hk
    cases hw : kwanted ops s o with
    | false =>
      rw [hw] at hk
      simp only [cond_false, Option.some.injEq, List.cons.injEq, and_true] at hk
      refine ⟨.tup [], by rw [← hk, po.dst], hdn, ?_⟩
      rw [again1_eq]
      unfold again1S
      rw [po.op]
      simp only [po.dst]
      have hg : (s.putD (some d) (.tup [])).tm.get d = some (.tup []) := by simp only [KS.putD, T.get_set, if_true]
      rw [hg, kwanted_put po.own, hw]
      simp only [cond_false]
      exact KV.eqb_refl _
    | true =>
      rw [hw, kval_quiet po.quiet] at hk
      simp only [cond_true] at hk
      cases hop : kop E.P E.F (base + i) s.hp (kopd s) o with
      | none => rw [hop] at hk; cases hk
      | some r =>
        obtain ⟨v, hp'⟩ := r
        rw [hop] at hk
        simp only [Option.map_some, List.map_cons, List.map_nil, Option.some.injEq, List.cons.injEq, and_true] at hk
        have hh := kquiet_hp po.quiet hop
        subst hh
        refine ⟨v, by rw [← hk, po.dst], hdn, ?_⟩
        rw [again1_eq]
        unfold again1S
        rw [po.op]
        simp only [po.dst]
        have hg : (s.putD (some d) v).tm.get d = some v := by simp only [KS.putD, T.get_set, if_true]
        rw [hg, kwanted_put po.own, hw, show (s.putD (some d) v).hp = s.hp from rfl, kop_put po.own, hop]
        simp only [cond_true]
        exact KV.eqb_refl _
  subst hs1
  refine ⟨by simp [h.sizeE], h.sizeL, fun j hj => ?_, fun j hj => ?_, ?_, fun D1 j D2 he => ?_, fun j hj hEj => ?_, ?_, fun j hj => ?_, fun j hj oj hoj => ?_⟩
  · rw [getD_setB hsE]
    by_cases e : j = i
    · subst e; simp
    · rw [if_neg e, h.eq j hj]
      simp [e]
  · rcases List.mem_append.1 hj with hj | hj
    · exact h.dis j hj
    · rw [List.mem_singleton.1 hj]; exact ⟨hlt, hLi, hq⟩
  · refine List.nodup_append.2 ⟨h.nodup, by simp, fun x hx y hy e => ?_⟩
    rw [List.mem_singleton.1 hy] at e
    exact hiD (e ▸ hx)
  · rcases List.eq_nil_or_concat D2 with rfl | ⟨D2', z, rfl⟩
    · have : D = D1 ∧ i = j := by
        have := List.append_inj' he (by simp)
        simpa using this
      obtain ⟨rfl, rfl⟩ := this
      intro o' ho' e hee hb
      have hE : En.getD e.on false = true := hpr o' ho' e hee hb
      have hlt' := getD_f_lt hE
      rw [h.sizeE] at hlt'
      rw [← getD_tf (by rw [h.sizeE]; exact hlt')] at hE
      rcases (h.eq e.on hlt').1 hE with h1 | h1
      · left; rw [← getD_tf (by rw [h.sizeL]; exact hlt')]; exact h1
      · exact .inr h1
    · have : D = D1 ++ j :: D2' := by
        rw [List.concat_eq_append, ← List.cons_append, ← List.append_assoc] at he
        exact (List.append_inj' he (by simp)).1
      exact h.ord D1 j D2' this
  · rw [getD_setB hsE] at hEj
    intro o' ho' e hee hb
    have key : En.getD e.on false = true → (En.setIfInBounds i true).getD e.on false = true := by
      intro hh
      rw [getD_setB hsE]
      split <;> first | rfl | exact hh
    by_cases e2 : j = i
    · subst e2; exact key (hpr o' ho' e hee hb)
    · rw [if_neg e2] at hEj
      exact key (h.closed j hj hEj o' ho' e hee hb)
  · refine ⟨⟨h.sx.1.1, fun t ht => ?_⟩, by rw [putD_df]; exact h.sx.2.1, by rw [putD_hp]; exact h.sx.2.2⟩
    have h1 : ¬ t = d := fun e => ht ⟨i, List.mem_append.2 (.inr (List.mem_singleton.2 rfl)), o, po.op, by rw [e]; exact po.dst⟩
    have h2 : ¬ ∃ i ∈ D, ∃ o, ops[i]? = some o ∧ o.dst = some t := fun ⟨j, hj, oj, h3, h4⟩ => ht ⟨j, List.mem_append.2 (.inl hj), oj, h3, h4⟩
    simp only [KS.putD, T.get_set, if_neg h1]
    exact h.sx.1.2 t h2
  · rcases List.mem_append.1 hj with hj | hj
    · refine again_put (fun oj hoj => ?_) (h.again j hj)
      have hne : j ≠ i := fun e => hiD (e ▸ hj)
      obtain ⟨p1, p2⟩ := po.other j oj hoj hne
      refine ⟨p1, fun hm => ?_⟩
      obtain ⟨e, he, hei, hb⟩ := hasPred_iff.1 (p2 hm)
      have hjl := (h.dis j hj).1
      have : En.getD e.on false = true := h.closed j hjl ((h.eq j hjl).2 (.inr hj)) oj hoj e he hb
      rw [hei, ← getD_tf hsE, hEi] at this
      cases this
    · rw [List.mem_singleton.1 hj]; exact hag
  · rcases List.mem_append.1 hj with hj | hj
    · exact h.dn j hj oj hoj
    · rw [List.mem_singleton.1 hj, po.op] at hoj
      cases hoj
      exact hdn

theorem Inv.eagers {n base : Nat} {ops : Array Oper} {ih : Run} {L : Array Bool} {a : Act} : ∀ {f : Nat} {En En' : Array Bool} {D : List Nat} {s s' : KS}, keager E ih n base ops (putOff ops) f En s = some (En', s') → Inv E n base ops ρ w0 En L D s a w →
    ∃ D', Inv E n base ops ρ w0 En' L D' s' a w ∧ (ready ops En').filter (putOff ops) = []
  | 0, En, En', D, s, s', hk, h => by
    simp only [keager] at hk
    split at hk
    · rename_i hr; cases hk; exact ⟨D, h, hr⟩
    · cases hk
  | f + 1, En, En', D, s, s', hk, h => by
    simp only [keager] at hk
    split at hk
    · rename_i hr; cases hk; exact ⟨D, h, hr⟩
    · rename_i i is hr
      split at hk
      · rename_i s1 hs1
        have hm : i ∈ (ready ops En).filter (putOff ops) := by rw [hr]; exact List.mem_cons_self
        obtain ⟨m1, m2⟩ := List.mem_filter.1 hm
        exact Inv.eagers hk (h.eager m1 m2 hs1)
      · cases hk
end Go.KX

set_option linter.unusedVariables false
set_option linter.unusedSimpArgs false
set_option maxRecDepth 20000
namespace Go.KX
open Go.RowKit (Below)
variable {E : Env} {ρ : Ren} {w0 w : World} {hp : T KO}

/-- what is ready looks at nothing that is put off -/
theorem Inv.clean {n base : Nat} {ops : Array Oper} {En L : Array Bool} {D : List Nat} {s : KS} {a : Act} {i : Nat} (h : Inv E n base ops ρ w0 En L D s a w) (hi : i ∈ ready ops L) : ∀ o, ops[i]? = some o → ∀ t ∈ tmpsOf ops o, ¬ ∃ i ∈ D, ∃ o, ops[i]? = some o ∧ o.dst = some t := by
  rintro o ho t ht ⟨j, hj, oj, hoj, hdj⟩
  obtain ⟨hlt, hLi, hpr⟩ := ready_iff.1 hi
  obtain ⟨o', d, po⟩ := putOff_spec (h.dis j hj).2.2
  have e1 : o' = oj := by have := po.op; rw [hoj] at this; exact (Option.some.inj this).symm
  subst e1
  have e2 : d = t := by have := po.dst; rw [hdj] at this; exact (Option.some.inj this).symm
  subst e2
  by_cases e : i = j
  · subst e
    rw [hoj] at ho; cases ho
    exact po.own ht
  · obtain ⟨e', he, hei, hb⟩ := hasPred_iff.1 ((po.other i o ho e).2 ht)
    have : L.getD e'.on false = true := hpr o ho e' he hb
    rw [hei] at this
    have h2 := (h.dis j hj).2.1
    rw [getD_tf (by rw [h.sizeL]; exact (h.dis j hj).1), this] at h2
    cases h2

theorem preds_mono {ops : Array Oper} {A B : Nat → Prop} (h : ∀ p, A p → B p) {i : Nat} (hp : Preds ops A i) : Preds ops B i := fun o ho e he hb => h _ (hp o ho e he hb)

/-- the program carries out what had been put off -/
theorem Inv.late (hE : EnvOk E) {n base : Nat} {ops : Array Oper} {En L : Array Bool} {D : List Nat} {s : KS} {a : Act} {i : Nat} (h : Inv E n base ops ρ w0 En L D s a w) (hi : i ∈ ready ops L) (hD : i ∈ D) {F : Fence} {N : Nat} (hF : FenceW F) {K : Act → World → Prop} {Q : Exit → Act → World → Prop}
    (hK : ∀ ρ' a' w' D', Ext ρ ρ' → Inv E n base ops ρ' w0 En (L.setIfInBounds i true) D' s a' w' → K a' w') : wpOpIn F N E.P ops Q i K a w := by
  have hclean := h.clean hi
  obtain ⟨hlt, hLi, hpr⟩ := ready_iff.1 hi
  have hsL : i < L.size := by rw [h.sizeL]; exact hlt
  obtain ⟨o, d, po⟩ := putOff_spec (h.dis i hD).2.2
  have hag := h.again i hD
  have hdn := h.dn i hD o po.op
  rw [po.dst] at hdn
  obtain ⟨X, Y, hXY⟩ := List.append_of_mem hD
  have hnd := h.nodup
  rw [hXY] at hnd
  obtain ⟨n1, n2, n3⟩ := List.nodup_append.1 hnd
  obtain ⟨n4, n5⟩ := List.nodup_cons.1 n2
  have hnX : i ∉ X ++ Y := by
    intro hm
    rcases List.mem_append.1 hm with hm | hm
    · exact n3 i hm i List.mem_cons_self rfl
    · exact n4 hm
  have hnd' : (X ++ Y).Nodup := List.nodup_append.2 ⟨n1, n5, fun x hx y hy => n3 x hx y (List.mem_cons_of_mem _ hy)⟩
  -- the state behind it
  have key : ∀ (ρ' : Ren) (u : Value) (w' : World), Ext ρ ρ' → VR ρ' ((s.tm.get d).getD (.tup [])) u → HR ρ' w0 s.hp w' → K (a.put (some d) u) w' := by
    intro ρ' u w' he hv hh
    refine hK ρ' _ w' (X ++ Y) he ⟨h.sizeE, by simp [h.sizeL], fun j hj => ?_, fun j hj => ?_, hnd', fun D1 j D2 hsplit => ?_, h.closed, ?_, fun j hj => ?_, fun j hj => ?_⟩
    · rw [h.eq j hj, getD_setB hsL, hXY]
      by_cases e : j = i
      · subst e; simp
      · rw [if_neg e]
        simp [e]
    · have hjD : j ∈ D := by rw [hXY]; rcases List.mem_append.1 hj with h1 | h1 <;> simp [h1]
      have hne : ¬ j = i := fun e => hnX (e ▸ hj)
      obtain ⟨p1, p2, p3⟩ := h.dis j hjD
      exact ⟨p1, by rw [getD_setB hsL, if_neg hne]; exact p2, p3⟩
    · have fwd : ∀ p, (L.getD p false = true) → (L.setIfInBounds i true).getD p false = true := by
        intro p hp
        rw [getD_setB hsL]
        split <;> first | rfl | exact hp
      have self : (L.setIfInBounds i true).getD i false = true := by rw [getD_setB hsL, if_pos rfl]
      rcases List.append_eq_append_iff.1 hsplit with ⟨Z, h1, h2⟩ | ⟨Z, h1, h2⟩
      · -- D1 = X ++ Z, Y = Z ++ j :: D2
        subst h1
        refine preds_mono ?_ (h.ord (X ++ i :: Z) j D2 (by rw [hXY, h2]; simp))
        rintro p (hp | hp)
        · exact .inl (fwd p hp)
        · rcases List.mem_append.1 hp with hp | hp
          · exact .inr (List.mem_append.2 (.inl hp))
          · rcases List.mem_cons.1 hp with rfl | hp
            · exact .inl self
            · exact .inr (List.mem_append.2 (.inr hp))
      · -- X = D1 ++ Z, j :: D2 = Z ++ Y
        subst h1
        cases Z with
        | nil =>
          have h2' : Y = j :: D2 := by simpa using h2.symm
          refine preds_mono ?_ (h.ord (D1 ++ [i]) j D2 (by rw [hXY, h2']; simp))
          rintro p (hp | hp)
          · exact .inl (fwd p hp)
          · rcases List.mem_append.1 hp with hp | hp
            · exact .inr hp
            · rw [List.mem_singleton.1 hp]; exact .inl self
        | cons z Z =>
          simp only [List.cons_append, List.cons.injEq] at h2
          obtain ⟨rfl, h2⟩ := h2
          refine preds_mono ?_ (h.ord D1 j (Z ++ i :: Y) (by rw [hXY]; simp))
          rintro p (hp | hp)
          · exact .inl (fwd p hp)
          · exact .inr hp
    · have hsz : d < a.tmps.size := by rw [h.sx.1.1]; exact bleT hdn
      refine ⟨⟨by simp [Act.put, h.sx.1.1], fun t ht => ?_⟩, by rw [put_defers]; exact h.sx.2.1.mono he, hh⟩
      simp only [Act.put]
      rw [getD_set hsz]
      by_cases e : t = d
      · rw [if_pos e, e]; exact hv
      · rw [if_neg e]
        refine (h.sx.1.2 t ?_).mono he
        rintro ⟨j, hj, oj, hoj, hdj⟩
        refine ht ⟨j, ?_, oj, hoj, hdj⟩
        rw [hXY] at hj
        rcases List.mem_append.1 hj with h1 | h1
        · exact List.mem_append.2 (.inl h1)
        · rcases List.mem_cons.1 h1 with rfl | h1
          · exfalso
            rw [po.op] at hoj; cases hoj
            rw [po.dst] at hdj
            exact e (Option.some.inj hdj).symm
          · exact List.mem_append.2 (.inr h1)
    · exact h.again j (by rw [hXY]; rcases List.mem_append.1 hj with h1 | h1 <;> simp [h1])
    · exact h.dn j (by rw [hXY]; rcases List.mem_append.1 hj with h1 | h1 <;> simp [h1])
  -- its step
  unfold wpOpIn
  rw [po.op]
  simp only
  rw [← wanted_eq h.sx (hclean o po.op)]
  rw [again1_eq] at hag
  unfold again1S at hag
  rw [po.op] at hag
  simp only [po.dst] at hag
  split at hag
  · rename_i u hu
    cases hw : kwanted ops s o with
    | false =>
      rw [hw] at hag
      simp only [cond_false] at hag
      simp only [Bool.false_eq_true, if_false]
      have := KV.eqb_eq hag
      subst this
      refine ⟨fun f _ => hF.fn f, ?_⟩
      rw [po.dst]
      exact key ρ undef w (.refl _) (by rw [hu]; exact VR.undef) h.sx.2.2
    | true =>
      rw [hw] at hag
      simp only [cond_true] at hag
      simp only [if_true]
      cases hop : kop E.P E.F (base + i) s.hp (kopd s) o with
      | none => rw [hop] at hag; cases hag
      | some r =>
        obtain ⟨v, hp'⟩ := r
        rw [hop] at hag
        have := KV.eqb_eq hag
        subst this
        have hh := kquiet_hp po.quiet hop
        subst hh
        refine upon_end hF (kop_noDefer hop) (kop_sound hE.flat h.sx.2.2 (fun x hx k hk => h.sx.opd (fun t ht => hclean o po.op t (opd_tmpsOf hx ht)) hk) hop) (fun ρ' u' w' h1 h2 h3 => ?_)
        rw [po.dst]
        exact key ρ' u' w' h1 (by rw [hu]; exact h2) h3
  · cases hag

/-- the program carries out what may not be put off -/
theorem Inv.step (hE : EnvOk E) {ih : Run} (hih : Sound E ih) {n base : Nat} {ops : Array Oper} {En L : Array Bool} {D : List Nat} {s : KS} {ss : List KS} {a : Act} {i : Nat} (h : Inv E n base ops ρ w0 En L D s a w) (hi : i ∈ ready ops L) (hD : i ∉ D) (hk : kstep E ih n base ops i s = some ss)
    (hag : ∀ s' ∈ ss, kagain E base ops (putOff ops) En (ops.getD i default) s' = true) {F : Fence} {N : Nat} (hF : FenceW F) {K : Act → World → Prop} {Q : Exit → Act → World → Prop}
    (hK : ∀ s' ∈ ss, ∀ ρ' a' w', Ext ρ ρ' → Inv E n base ops ρ' w0 (En.setIfInBounds i true) (L.setIfInBounds i true) D s' a' w' → K a' w') : wpOpIn F N E.P ops Q i K a w := by
  obtain ⟨hlt, hLi, hpr⟩ := ready_iff.1 hi
  have hsL : i < L.size := by rw [h.sizeL]; exact hlt
  have hsE : i < En.size := by rw [h.sizeE]; exact hlt
  refine kstep_x hE hih hk h.sx (fun o ho t ht => h.clean hi o ho t ht) hF (fun s' hs' ρ' a' w' k1 k2 _ => ?_)
  have fL : ∀ p, L.getD p false = true → (L.setIfInBounds i true).getD p false = true := by
    intro p hp
    rw [getD_setB hsL]
    split <;> first | rfl | exact hp
  have fE : ∀ p, En.getD p false = true → (En.setIfInBounds i true).getD p false = true := by
    intro p hp
    rw [getD_setB hsE]
    split <;> first | rfl | exact hp
  have LE : ∀ p, L.getD p false = true → En.getD p false = true := by
    intro p hp
    have hl := getD_f_lt hp
    rw [h.sizeL] at hl
    rw [← getD_tf (by rw [h.sizeE]; exact hl)]
    exact (h.eq p hl).2 (.inl (by rw [getD_tf (by rw [h.sizeL]; exact hl)]; exact hp))
  refine hK s' hs' ρ' a' w' k1 ⟨by simp [h.sizeE], by simp [h.sizeL], fun j hj => ?_, fun j hj => ?_, h.nodup, fun D1 j D2 he => ?_, fun j hj hEj => ?_, k2, fun j hj => ?_, h.dn⟩
  · rw [getD_setB hsE, getD_setB hsL]
    by_cases e : j = i
    · rw [if_pos e, if_pos e]; simp
    · rw [if_neg e, if_neg e]; exact h.eq j hj
  · obtain ⟨p1, p2, p3⟩ := h.dis j hj
    have hne : ¬ j = i := fun e => hD (e ▸ hj)
    exact ⟨p1, by rw [getD_setB hsL, if_neg hne]; exact p2, p3⟩
  · refine preds_mono ?_ (h.ord D1 j D2 he)
    rintro p (hp | hp)
    · exact .inl (fL p hp)
    · exact .inr hp
  · rw [getD_setB hsE] at hEj
    by_cases e : j = i
    · subst e; exact preds_mono (fun p hp => fE p (LE p hp)) hpr
    · rw [if_neg e] at hEj
      exact preds_mono fE (h.closed j hj hEj)
  · obtain ⟨p1, p2, p3⟩ := h.dis j hj
    have hka := hag s' hs'
    unfold kagain at hka
    have := List.all_eq_true.1 hka j (List.mem_range.2 p1)
    have hEj : En.getD j true = true := (h.eq j p1).2 (.inr hj)
    rw [hEj, p3] at this
    simp only [Bool.and_self, Bool.not_true, Bool.false_or, Bool.or_eq_true] at this
    rcases this with hpd | hok
    · exfalso
      have ho : ops[i]? = some ops[i] := Array.getElem?_eq_getElem hlt
      have hg : ops.getD i default = ops[i] := by simp [Array.getD_eq_getD_getElem?, hlt]
      rw [hg] at hpd
      obtain ⟨e, he, hei, hb⟩ := hasPred_iff.1 hpd
      have : L.getD e.on false = true := hpr _ ho e he hb
      rw [hei, ← getD_tf (by rw [h.sizeL]; exact p1), p2] at this
      cases this
    · exact hok

theorem keager_done {ih : Run} {n base : Nat} {ops : Array Oper} {q : Nat → Bool} {f : Nat} {En : Array Bool} {s : KS} (h : (ready ops En).filter q = []) : keager E ih n base ops q f En s = some (En, s) := by
  cases f <;> simp only [keager, h]

theorem kexpl_sound (hE : EnvOk E) {ih : Run} (hih : Sound E ih) {n base : Nat} {ops : Array Oper} {F : Fence} {N : Nat} (hF : FenceW F) {Q : Exit → Act → World → Prop} : ∀ (g : Nat) {f : Nat} {En L : Array Bool} {D : List Nat} {s : KS} {ss : List KS} {ρ : Ren} {a : Act} {w : World} {U : List Nat},
    kexpl E ih n base ops (putOff ops) f En s = some ss → Inv E n base ops ρ w0 En L D s a w → U.length ≤ g → (∀ i, i < ops.size → L.getD i true = false → i ∈ U) →
    (∀ s' ∈ ss, ∀ ρ' a' w', Ext ρ ρ' → SR ρ' n w0 s' a' w' → Q .normal a' w') → wpAnyIn F N E.P .any ops Q g L a w := by
  intro g
  induction g with
  | zero =>
    intro f En L D s ss ρ a w U hk h hU hUn hQ
    have hall : ∀ i, i < ops.size → L.getD i true = true := by
      intro i hi
      cases hb : L.getD i true with
      | true => rfl
      | false =>
        have := hUn i hi hb
        have : 0 < U.length := List.length_pos_of_mem this
        omega
    have hrL : ready ops L = [] := by
      rcases hr : ready ops L with _ | ⟨x, xs⟩
      · rfl
      · exfalso
        have hm : x ∈ ready ops L := by rw [hr]; exact List.mem_cons_self
        obtain ⟨h1, h2, _⟩ := ready_iff.1 hm
        rw [hall x h1] at h2; cases h2
    refine ⟨hrL, ?_⟩
    cases f with
    | zero => simp [kexpl] at hk
    | succ f =>
      simp only [kexpl] at hk
      split at hk
      · cases hk
      · rename_i En' s' hke
        obtain ⟨D', h', hsat⟩ := Inv.eagers hke h
        have hD' : D' = [] := by
          rcases D' with _ | ⟨x, xs⟩
          · rfl
          · exfalso
            obtain ⟨p1, p2, _⟩ := h'.dis x List.mem_cons_self
            rw [hall x p1] at p2; cases p2
        subst hD'
        have hrE : ready ops En' = [] := by
          rcases hr : ready ops En' with _ | ⟨x, xs⟩
          · rfl
          · exfalso
            have hm : x ∈ ready ops En' := by rw [hr]; exact List.mem_cons_self
            obtain ⟨h1, h2, _⟩ := ready_iff.1 hm
            have := (h'.eq x h1).2 (.inl (hall x h1))
            rw [h2] at this; cases this
        rw [hrE] at hk
        simp only [Option.some.injEq] at hk; subst hk
        exact hQ s' (List.mem_singleton.2 rfl) ρ a w (.refl _) (h'.sx.to (fun t ⟨i, hi, _⟩ => by simp at hi))
  | succ g ihg =>
    intro f En L D s ss ρ a w U hk h hU hUn hQ
    cases f with
    | zero => simp [kexpl] at hk
    | succ f =>
      simp only [kexpl] at hk
      split at hk
      · cases hk
      · rename_i En' s' hke
        obtain ⟨D', h', hsat⟩ := Inv.eagers hke h
        -- the same, from where all that may be put off has been put forward
        have hk' : kexpl E ih n base ops (putOff ops) (f + 1) En' s' = some ss := by
          simp only [kexpl, keager_done hsat]
          exact hk
        have rm : ∀ i, i < ops.size → L.getD i true = false → (U.erase i).length ≤ g ∧ ∀ j, j < ops.size → (L.setIfInBounds i true).getD j true = false → j ∈ U.erase i := by
          intro i hi hLi
          have hm := hUn i hi hLi
          have hsL : i < L.size := by rw [h.sizeL]; exact hi
          refine ⟨by rw [List.length_erase_of_mem hm]; omega, fun j hj hLj => ?_⟩
          rw [getD_setB hsL] at hLj
          by_cases e : j = i
          · rw [if_pos e] at hLj; cases hLj
          · rw [if_neg e] at hLj
            exact (List.mem_erase_of_ne e).2 (hUn j hj hLj)
        refine ⟨fun hrL => ?_, fun i hi => ?_⟩
        · -- the program has come to the end
          have hD' : D' = [] := by
            rcases hD0 : D' with _ | ⟨x, xs⟩
            · rfl
            · exfalso
              subst hD0
              have hx := h'.dis x List.mem_cons_self
              have hp := h'.ord [] x xs rfl
              have : x ∈ ready ops L := ready_iff.2 ⟨hx.1, hx.2.1, preds_mono (fun p hp => hp.resolve_right (by simp)) hp⟩
              have this' : x ∈ Region.ready .any ops L := this
              rw [hrL] at this'
              cases this'
          subst hD'
          have hrE : ready ops En' = [] := by
            rcases hr : ready ops En' with _ | ⟨x, xs⟩
            · rfl
            · exfalso
              have hm : x ∈ ready ops En' := by rw [hr]; exact List.mem_cons_self
              obtain ⟨h1, h2, h3⟩ := ready_iff.1 hm
              have hLx : L.getD x true = false := by
                cases hb : L.getD x true with
                | false => rfl
                | true => have := (h'.eq x h1).2 (.inl hb); rw [h2] at this; cases this
              have : x ∈ ready ops L := ready_iff.2 ⟨h1, hLx, preds_mono (fun p hp => by
                have hl := getD_f_lt hp
                rw [h'.sizeE] at hl
                rw [← getD_tf (by rw [h'.sizeL]; exact hl)]
                exact ((h'.eq p hl).1 (by rw [getD_tf (by rw [h'.sizeE]; exact hl)]; exact hp)).resolve_right (by simp)) h3⟩
              have this' : x ∈ Region.ready .any ops L := this
              rw [hrL] at this'
              cases this'
          rw [hrE] at hk
          simp only [Option.some.injEq] at hk; subst hk
          exact hQ s' (List.mem_singleton.2 rfl) ρ a w (.refl _) (h'.sx.to (fun t ⟨i, hi, _⟩ => by simp at hi))
        · obtain ⟨hlt, hLi, hpr⟩ := ready_iff.1 hi
          obtain ⟨r1, r2⟩ := rm i hlt hLi
          by_cases hD : i ∈ D'
          · exact h'.late hE hi hD hF (fun ρ' a' w' D2 k1 k2 => ihg hk' k2 r1 r2 (fun s2 hs2 ρ2 a2 w2 j1 j2 => hQ s2 hs2 ρ2 a2 w2 (k1.trans j1) j2))
          · have hEi : En'.getD i true = false := by
              cases hb : En'.getD i true with
              | false => rfl
              | true =>
                rcases (h'.eq i hlt).1 hb with h1 | h1
                · rw [hLi] at h1; cases h1
                · exact absurd h1 hD
            have hiE : i ∈ ready ops En' := ready_iff.2 ⟨hlt, hEi, preds_mono (fun p hp => by
              have hl := getD_f_lt hp
              rw [h'.sizeL] at hl
              rw [← getD_tf (by rw [h'.sizeE]; exact hl)]
              exact (h'.eq p hl).2 (.inl (by rw [getD_tf (by rw [h'.sizeL]; exact hl)]; exact hp))) hpr⟩
            split at hk
            · rename_i hr; rw [hr] at hiE; cases hiE
            · rename_i hr
              cases hb : bindL (kbr E ih n base ops (putOff ops) (kexpl E ih n base ops (putOff ops) f) En' s') (ready ops En') with
              | none => rw [hb] at hk; cases hk
              | some all =>
                rw [hb] at hk
                simp only [Option.map_some, Option.some.injEq] at hk; subst hk
                obtain ⟨bs, hbs, hmem⟩ := bindL_some hb i hiE
                unfold kbr at hbs
                split at hbs
                · rename_i ss1 hs1
                  obtain ⟨hag, hbs⟩ := bifS hbs
                  refine h'.step hE hih hi hD hs1 (fun s2 hs2 => List.all_eq_true.1 hag s2 hs2) hF (fun s2 hs2 ρ' a' w' k1 k2 => ?_)
                  obtain ⟨cs, hcs, hmem2⟩ := bindL_some hbs s2 hs2
                  exact ihg hcs k2 r1 r2 (fun s3 hs3 ρ3 a3 w3 j1 j2 => hQ s3 (merge_mem (hmem _ (hmem2 _ hs3))) ρ3 a3 w3 (k1.trans j1) j2)
                · cases hbs

theorem kregion_sound (hE : EnvOk E) {ih : Run} (hih : Sound E ih) {n id : Nat} {ops : Array Oper} {draw : Bool} {s : KS} {ss : List KS} {a : Act} (hk : kregion E ih n ops draw s = some ss) (h : SR ρ n w0 s a w) {F : Fence} {N : Nat} (hF : FenceW F) {Q : Exit → Act → World → Prop}
    (hQ : ∀ s' ∈ ss, ∀ ρ' a' w', Ext ρ ρ' → SR ρ' n w0 s' a' w' → Q .normal a' w') : (Code.region id ops draw).wpIn F N E.P Q a w := by
  unfold kregion at hk
  cases draw with
  | false =>
    simp only [Bool.false_eq_true, if_false] at hk
    exact wpIn_region (kops_sound (s := { s with nx := s.nx + ops.size }) hE hih hF hk h hQ)
  | true =>
    simp only [if_true] at hk
    refine wpIn_region_any hE.mixed ?_
    have hd : SR ρ n w0 { s with nx := s.nx + ops.size } a w.drew := ⟨h.1, h.2.1, h.2.2.drew⟩
    have hf : ∀ i, i < ops.size → (Array.replicate ops.size false).getD i true = false := by
      intro i hi
      simp [Array.getD_eq_getD_getElem?, hi]
    refine kexpl_sound (w0 := w0) (ρ := ρ) (U := List.range ops.size) (D := []) hE hih hF ops.size hk ⟨by simp, by simp, fun i hi => by simp, fun i hi => by simp at hi, by simp, fun D1 i D2 he => by simp at he, fun i hi hE => ?_, SX.of hd _, fun i hi => by simp at hi, fun i hi => by simp at hi⟩ (by simp) (fun i hi _ => List.mem_range.2 hi) hQ
    rw [hf i hi] at hE; cases hE
end Go.KX

set_option linter.unusedVariables false
set_option linter.unusedSimpArgs false
set_option maxRecDepth 20000
namespace Go.KX
open Go.RowKit (Below)
variable {E : Env} {ρ : Ren} {w0 w : World} {hp : T KO}

theorem SR.mono {ρ' : Ren} {n : Nat} {s : KS} {a : Act} (he : Ext ρ ρ') (h : SR ρ n w0 s a w) (hh : HR ρ' w0 s.hp w) : SR ρ' n w0 s a w := ⟨h.1.mono he, h.2.1.mono he, hh⟩

theorem run_succ (E : Env) (f : Nat) : run E (f + 1) = body E (run E f) := rfl

theorem least {p : Nat → Prop} (h : ∃ k, p k) : ∃ k, p k ∧ ∀ j, j < k → ¬ p j := by
  obtain ⟨k, hk⟩ := h
  induction k using Nat.strongRecOn with
  | _ k ih =>
    by_cases hl : ∃ j, j < k ∧ p j
    · obtain ⟨j, hj, hp⟩ := hl
      exact ih j hj hp
    · exact ⟨k, hk, fun j hj hp => hl ⟨j, hj, hp⟩⟩

theorem loop_sound {f : Nat} (hih : ∀ j, j < f → Sound E (run E j)) {rd : Option Nat} {n : Nat} {c : Code} {s : KS} {rs : List Res} (hk : run E f (.code rd n (.loop c) s) = some rs) : TaskOk E (.code rd n (.loop c) s) rs := by
  intro ρ w0 F N a w hF h Q hQ
  let R : Nat → Act → World → Prop := fun k a w => k ≤ f ∧ ∃ ρ' s' rs', Ext ρ ρ' ∧ SR ρ' n w0 s' a w ∧ run E k (.code rd n (.loop c) s') = some rs' ∧ ∀ r ∈ rs', r ∈ rs
  let I : Act → World → Prop := fun a w => ∃ k, R k a w
  have hl : ∀ a w, I a w → ∃ k, R k a w ∧ ∀ j, j < k → ¬ R j a w := fun a w h => least h
  let μ : Act → World → Nat := fun a w => open Classical in if h : I a w then Classical.choose (hl a w h) else 0
  have hμ : ∀ a w (h : I a w), R (μ a w) a w ∧ ∀ j, j < μ a w → ¬ R j a w := by
    intro a w h
    have : μ a w = Classical.choose (hl a w h) := by simp only [μ, dif_pos h]
    rw [this]
    exact Classical.choose_spec (hl a w h)
  refine wpIn_loop I μ ⟨f, Nat.le_refl _, ρ, s, rs, .refl _, h, hk, fun r hr => hr⟩ ?_
  intro a1 w1 hI
  obtain ⟨⟨hle, ρ1, s1, rs1, he1, h1, hk1, hsub⟩, hleast⟩ := hμ a1 w1 hI
  cases hm : μ a1 w1 with
  | zero => rw [hm] at hk1; exact absurd hk1 (by simp [run])
  | succ k =>
    rw [hm] at hk1 hle
    rw [run_succ] at hk1
    simp only [body] at hk1
    split at hk1
    · rename_i rs2 hk2
      refine hih k (by omega) _ _ hk2 ρ1 w0 F N a1 w1 (hF.mono he1) h1 _ (fun r hr ρ2 a2 w2 he2 h2 => ?_)
      obtain ⟨bs, hbs, hmem⟩ := bindL_some hk1 r hr
      cases hex : r.ex with
      | normal =>
        rw [hex] at hbs
        simp only at hbs
        have hR : R k a2 w2 := ⟨by omega, ρ2, r.s, bs, he1.trans he2, h2, hbs, fun q hq => hsub q (hmem q hq)⟩
        refine ⟨⟨k, hR⟩, ?_⟩
        have := (hμ a2 w2 ⟨k, hR⟩).2
        rcases Nat.lt_or_ge k (μ a2 w2) with hlt | hge
        · exact absurd hR (this k hlt)
        · exact Nat.lt_succ_of_le hge
      | exit id =>
        rw [hex] at hbs
        simp only [Option.some.injEq] at hbs; subst hbs
        have := hQ r (hsub r (hmem r (List.mem_singleton.2 rfl))) ρ2 a2 w2 (he1.trans he2) h2
        rw [hex] at this
        exact this
      | ret =>
        rw [hex] at hbs
        simp only [Option.some.injEq] at hbs; subst hbs
        have := hQ r (hsub r (hmem r (List.mem_singleton.2 rfl))) ρ2 a2 w2 (he1.trans he2) h2
        rw [hex] at this
        exact this
    · cases hk1

theorem callFunc_enter {P : Program} {f : FuncId} {fn : Func} (hf : P.funcs[f]? = some fn) {c : Code} (hb : fn.body = some c) (hn : (fn.name == "runtime.NumGoroutine") = false) (args : Array Value) (w : World) : (callFunc f args).run P w = .ok (.enter f args) w := by
  have hn' : ¬ fn.name = "runtime.NumGoroutine" := by simpa using hn
  simp [callFunc, program, Sem.run, hf, hb, hn', Result.andThen]

theorem ofList_get : ∀ (vs : List KV) (i : Nat) (t : T KV) (j : Nat), (ofList vs i t).get j = if i ≤ j ∧ j < i + vs.length then vs[j - i]? else t.get j
  | [], i, t, j => by simp only [ofList, List.length_nil]; rw [if_neg (by omega)]
  | v :: vs, i, t, j => by
    simp only [ofList]
    rw [ofList_get vs (i + 1) (t.set i v) j, T.get_set]
    by_cases e : j = i
    · subst e
      rw [if_neg (by omega), if_pos rfl, if_pos (by simp)]
      simp
    · rw [if_neg e]
      by_cases h : i + 1 ≤ j ∧ j < i + 1 + vs.length
      · rw [if_pos h, if_pos (by simp; omega)]
        rw [show j - i = (j - (i + 1)) + 1 by omega, List.getElem?_cons_succ]
      · rw [if_neg h, if_neg (by simp; omega)]

theorem args_TR {args : List KV} {vs : List Value} (h : VRs ρ args vs) (nt : Nat) : TR ρ (max nt args.length) (ofList args 0 .e) (vs.toArray ++ Array.replicate (nt - vs.toArray.size) undef) := by
  refine ⟨by simp [← h.1]; omega, fun t => ?_⟩
  rw [ofList_get]
  simp only [Nat.zero_le, true_and, Nat.zero_add, Nat.sub_zero]
  have hget : (vs.toArray ++ Array.replicate (nt - vs.toArray.size) undef).getD t undef = (vs[t]?).getD undef := by
    simp only [Array.getD_eq_getD_getElem?, Array.getElem?_append, List.size_toArray, List.getElem?_toArray]
    split
    · rfl
    · rename_i hlt
      rw [List.getElem?_eq_none (by omega)]
      rw [Array.getElem?_replicate]
      split <;> rfl
  rw [hget]
  by_cases ht : t < args.length
  · rw [if_pos ht]
    obtain ⟨v, h1, h2⟩ := h.get (List.getElem?_eq_getElem ht)
    rw [List.getElem?_eq_getElem ht, h1]
    exact h2
  · rw [if_neg ht, List.getElem?_eq_none (by rw [← h.1]; omega)]
    exact VR.undef

/-! ## Results -/
def resVar (P : Program) (tms : Array Value) : ResultVar → Sem Value
  | .tmp t => pure (tms.getD t undef)
  | .cell a t => do loadVar t (← asAddr (tms.getD a undef))
def tupV : List Value → Value
  | [v] => v
  | vs => .tuple vs.toArray

theorem run_results {P : Program} {tms : Array Value} {fn : Func} {vs : List Value} (h : (fn.results.toList.mapM (resVar P tms)).run P w = .ok vs w) :
    (results fn tms).run P w = .ok (tupV vs) w := by
  have h1 : (fn.results.mapM (resVar P tms)).run P w = .ok vs.toArray w := by
    rw [Array.mapM_eq_mapM_toList, Sem.run_map, h]; rfl
  have h2 : results fn tms = (do let vs ← fn.results.mapM (resVar P tms); pure (if h : vs.size = 1 then vs[0] else .tuple vs)) := by
    unfold results
    congr 1
  rw [h2]
  simp only [Sem.run_bind, h1, Result.andThen_ok, Sem.run_pure]
  congr 1
  match vs with
  | [] => rfl
  | [v] => rfl
  | v :: u :: vs => simp [tupV]

theorem one_tupV {xs : List KV} {vs : List Value} (h : VRs ρ xs vs) : VR ρ (one xs) (tupV vs) := by
  match xs, vs, h with
  | [], [], h => exact VR.undef
  | [x], [v], h => exact h.head
  | x :: y :: xs, v :: u :: vs, h => exact VR.tup' h
  | [], _ :: _, h => have := h.1; simp at this
  | _ :: _, [], h => have := h.1; simp at this
  | [_], _ :: _ :: _, h => have := h.1; simp at this
  | _ :: _ :: _, [_], h => have := h.1; simp at this

theorem kresult_sound {P : Program} {n : Nat} {s : KS} {tms : Array Value} (ht : TR ρ n s.tm tms) (hh : HR ρ w0 s.hp w) : ∀ {rv : List ResultVar} {xs : List KV}, kresult P s rv = some xs → ∃ vs, (rv.mapM (resVar P tms)).run P w = .ok vs w ∧ VRs ρ xs vs
  | [], xs, h => by simp only [kresult, Option.some.injEq] at h; subst h; exact ⟨[], rfl, VRs.nil⟩
  | .tmp t :: r, xs, h => by
    simp only [kresult] at h
    split at h
    · rename_i ys hys
      cases h
      obtain ⟨vs, h1, h2⟩ := kresult_sound ht hh hys
      exact ⟨tms.getD t undef :: vs, by rw [List.mapM_cons]; simp only [Sem.run_bind, resVar, Sem.run_pure, Result.andThen_ok, h1], .cons (ht.2 t) h2⟩
    · cases h
  | .cell a t :: r, xs, h => by
    simp only [kresult] at h
    split at h
    · rename_i v ys hv hys
      cases h
      obtain ⟨vs, h1, h2⟩ := kresult_sound ht hh hys
      have ha := ht.2 a
      obtain ⟨u, hu, hru⟩ := kload_sound (P := P) hh ha hv
      have hp : ∃ A, tms.getD a undef = .pointer (some A) := by
        unfold kload at hv
        split at hv
        · rename_i b off hb
          rw [hb] at ha
          generalize tms.getD a undef = va at ha
          cases ha
          exact ⟨_, rfl⟩
        · cases hv
      obtain ⟨A, hA⟩ := hp
      rw [hA] at hu
      have hl : (loadVar t A).run P w = .ok u w := by
        simp only [Instr.loadAt, Instr.sureAddr, Sem.run_bind, Sem.run_pure, Result.andThen_ok] at hu
        exact hu
      exact ⟨u :: vs, by rw [List.mapM_cons]; simp only [Sem.run_bind, resVar, hA, asAddr, Sem.run_pure, Result.andThen_ok, hl, h1], .cons hru h2⟩
    · cases h

/-- on the way out -/
theorem leaves {P : Program} {F : Fence} {N : Nat} {fn : Func} {n : Nat} {s : KS} {tms : Array Value} {R : Ending → World → Prop} {xs : List KV} : ∀ {df : List Nat} {ds : List Deferred} {hp hp' : T KO} {w : World}, kshut df hp = some hp' → DR ρ df ds → TR ρ n s.tm tms → HR ρ w0 hp w → kresult P { s with hp := hp' } fn.results.toList = some xs →
    (∀ w' v, VR ρ (one xs) v → HR ρ w0 hp' w' → R (.returned v) w') → LeavesInM F N P fn tms R ds .returning w
  | [], [], hp, hp', w, hk, hd, ht, hh, hr, hR => by
    simp only [kshut, Option.some.injEq] at hk; subst hk
    obtain ⟨vs, h1, h2⟩ := kresult_sound (s := { s with hp := hp }) ht hh hr
    exact ⟨tupV vs, run_results h1, hR w _ (one_tupV h2) hh⟩
  | r :: rs, d :: ds, hp, hp', w, hk, ⟨⟨L, m, hL, hd⟩, hds⟩, ht, hh, hr, hR => by
    simp only [kshut] at hk
    split at hk
    · rename_i ho
      obtain ⟨obj, h1, h2⟩ := hh.get hL ho
      have h2' : obj = .deferred (some []) := h2
      subst h2'
      refine ⟨by simp, .inl ⟨L, w.putObj L (.deferred none), by rw [hd], run_takeDeferred h1, ?_⟩⟩
      exact leaves hk hds ht (hh.putObj hL (by rw [ho]; simp) rfl) hr hR
    · cases hk
  | [], _ :: _, _, _, _, _, hd, _, _, _, _ => hd.elim
  | _ :: _, [], _, _, _, _, hd, _, _, _, _ => hd.elim

/-! ## Outcomes that come to the same -/
def Deadened (h h' : T KO) : Prop := ∀ b, h'.get b = h.get b ∨ h'.get b = some .dead
theorem sweep_dead {keep : List Nat} : ∀ (n b : Nat) (hp : T KO), Deadened hp (sweep keep n b hp)
  | 0, _, _, _ => .inl rfl
  | n + 1, b, hp, c => by
    simp only [sweep]
    rcases sweep_dead n (b + 1) (bif keep.contains b then hp else hp.set b .dead) c with h | h
    · rw [h]
      cases keep.contains b with
      | true => exact .inl rfl
      | false =>
        simp only [cond_false]
        rw [T.get_set]
        by_cases e : c = b
        · rw [if_pos e]; exact .inr rfl
        · rw [if_neg e]; exact .inl rfl
    · exact .inr h
theorem HR.deaden {ρ : Ren} {w0 w : World} {hp hp' : T KO} (h : HR ρ w0 hp w) (hd : Deadened hp hp') : HR ρ w0 hp' w := by
  have live : ∀ b, hp'.get b ≠ some .dead → hp.get b ≠ some .dead := by
    intro b hb e
    rcases hd b with h1 | h1
    · rw [h1] at hb; exact hb e
    · exact hb h1
  refine ⟨h.below, fun b B m hb => ?_, h.low, fun b b' B m m' h1 h2 h3 h4 => h.inj b b' B m m' h1 h2 (live b h3) (live b' h4)⟩
  obtain ⟨o, obj, h1, h2, h3⟩ := h.dom b B m hb
  rcases hd b with e | e
  · exact ⟨o, obj, by rw [e]; exact h1, h2, h3⟩
  · exact ⟨.dead, obj, e, h2, trivial⟩
theorem mergeR_mem : ∀ {rs : List Res} {r : Res}, r ∈ rs → ∃ q ∈ mergeR rs, q.v = r.v ∧ q.s = r.s
  | t :: rs, r, h => by
    simp only [mergeR]
    cases hm : (mergeR rs).any (fun q => KV.eqF t.v q.v && KS.eqF t.s q.s) with
    | true =>
      simp only [cond_true]
      rcases List.mem_cons.1 h with rfl | h
      · obtain ⟨u, hu, he⟩ := List.any_eq_true.1 hm
        simp only [Bool.and_eq_true] at he
        rw [KV.eqF_eq, KS.eqF_eq] at he
        exact ⟨u, hu, (KV.eqb_eq he.1).symm, (KS.eqb_eq he.2).symm⟩
      · exact mergeR_mem h
    | false =>
      simp only [cond_false]
      rcases List.mem_cons.1 h with rfl | h
      · exact ⟨_, List.mem_cons_self, rfl, rfl⟩
      · obtain ⟨q, hq, h1⟩ := mergeR_mem h
        exact ⟨q, List.mem_cons_of_mem _ hq, h1⟩
theorem kmg_mem {lo : Nat} {rs : List Res} {r : Res} (h : r ∈ rs) : ∃ q ∈ kmg lo rs, q.v = r.v ∧ Deadened r.s.hp q.s.hp := by
  unfold kmg
  split
  · obtain ⟨q, hq, h1, h2⟩ := mergeR_mem (List.mem_map.2 ⟨r, h, rfl⟩ : clean lo (maxNx _) r ∈ List.map (clean lo (maxNx _)) _)
    refine ⟨q, hq, h1, ?_⟩
    rw [h2]
    exact sweep_dead _ _ _
  · exact ⟨r, h, rfl, fun b => .inl rfl⟩

theorem HR.grown {ρ : Ren} {w0 w w' : World} {hp : T KO} (h : HR ρ w0 hp w) (hb : Below w.heap.size w w') : HR ρ w0 hp w' := by
  refine ⟨h.below.trans (hb.mono h.below.size), fun b B m hb' => ?_, h.low, h.inj⟩
  obtain ⟨o, obj, h1, h2, h3⟩ := h.dom b B m hb'
  exact ⟨o, obj, h1, by rw [hb.block B (h.lt hb')]; exact h2, h3⟩
theorem call_sound (hE : EnvOk E) {ih : Run} (hih : Sound E ih) {f : FuncId} {args : List KV} {hp : T KO} {nx : Nat} {rs : List Res} (hk : body E ih (.call f args hp nx) = some rs) : TaskOk E (.call f args hp nx) rs := by
  simp only [body] at hk
  split at hk
  · rename_i e he
    split at hk
    · rename_i v hv
      cases hk
      obtain ⟨h1, h2⟩ := hE.ents f e he
      refine ⟨h1, fun ρ w0 N vs w hvs hh => ?_⟩
      refine ((callsIn_wide.2 (h2 _ _ hv ρ vs w hvs)).mono ?_)
      rintro x w' ⟨u, rfl, hu, hb⟩
      exact ⟨_, List.mem_singleton.2 rfl, ρ, u, rfl, .refl _, hu, hh.grown hb⟩
    · cases hk
  split at hk
  · rename_i fn hf
    split at hk
    · rename_i c hb
      obtain ⟨hn, hk⟩ := bifS hk
      have hn' : (fn.name == "runtime.NumGoroutine") = false := by simpa using hn
      refine ⟨callFunc_enter hf hb hn', fun ρ w0 N vs w hv hh => ?_⟩
      split at hk
      · rename_i rs1 hk1
        obtain ⟨rs0, hk0, rfl⟩ := Option.map_eq_some_iff.1 hk
        refine callsIn_of_wp_marks hf hb trivial ?_
        refine hih _ _ hk1 ρ w0 Fence.wide N { tmps := vs.toArray ++ Array.replicate (fn.ntmps - vs.toArray.size) undef, defers := [] } w rfl ⟨args_TR hv fn.ntmps, trivial, hh⟩ _ (fun r hr ρ' a' w' he h => ?_)
        obtain ⟨bs, hbs, hmem⟩ := bindL_some hk0 r hr
        have fin : ∀ {bs : List Res}, (match kshut r.s.df r.s.hp with
              | some hp' => match kresult E.P { r.s with hp := hp' } fn.results.toList with
                | some vs => some [⟨.ret, one vs, { r.s with hp := hp' }⟩]
                | none => none
              | none => none) = some bs → (∀ b ∈ bs, b ∈ rs0) → LeavesInM Fence.wide N E.P fn a'.tmps (CallEnd ρ w0 (kmg nx rs0)) a'.defers .returning w' := by
          intro bs hbs hmem
          split at hbs
          · rename_i hp' hsh
            split at hbs
            · rename_i xs hxs
              cases hbs
              exact leaves hsh h.2.1 h.1 h.2.2 hxs (fun w2 v k1 k2 => by
                obtain ⟨q, hq, e1, e2⟩ := kmg_mem (lo := nx) (hmem _ (List.mem_singleton.2 rfl))
                exact ⟨q, hq, ρ', v, rfl, he, by rw [e1]; exact k1, k2.deaden e2⟩)
            · cases hbs
          · cases hbs
        cases hex : r.ex with
        | normal => rw [hex] at hbs; exact fin hbs hmem
        | ret => rw [hex] at hbs; exact fin hbs hmem
        | exit id => rw [hex] at hbs; cases hbs
      · cases hk
    · cases hk
  · cases hk
end Go.KX

set_option linter.unusedVariables false
set_option linter.unusedSimpArgs false
set_option maxRecDepth 20000
namespace Go.KX
open Go.RowKit (Below)
variable {E : Env} {ρ : Ren} {w0 w : World} {hp : T KO}

theorem setAll_TR {n : Nat} : ∀ {ps : List Nat} {as : List KV} {vs : List Value} {tm : T KV} {tms : Array Value}, ps.length = as.length → VRs ρ as vs → TR ρ n tm tms → TR ρ n (setAll n ps as tm) ((ps.zip vs).foldl (fun (t : Array Value) (p : Nat × Value) => t.setIfInBounds p.1 p.2) tms)
  | [], [], [], tm, tms, _, _, h => h
  | p :: ps, a :: as, v :: vs, tm, tms, hl, hv, h => by
    simp only [setAll, List.zip_cons_cons, List.foldl_cons]
    refine setAll_TR (by simpa using hl) hv.tail ⟨by simp [h.1], fun t => ?_⟩
    cases hb : Nat.blt p n with
    | true =>
      have hlt : p < tms.size := by rw [h.1]; exact bleT hb
      simp only [cond_true, T.get_set, getD_set hlt]
      by_cases e : t = p
      · rw [if_pos e, if_pos e]; exact hv.head
      · rw [if_neg e, if_neg e]; exact h.2 t
    | false =>
      have hge : tms.size ≤ p := by
        rw [h.1]
        rcases Nat.lt_or_ge p n with h1 | h1
        · have : Nat.blt p n = true := Nat.ble_eq_true_of_le h1
          rw [this] at hb; cases hb
        · exact h1
      simp only [cond_false]
      rw [Array.setIfInBounds_eq_of_size_le hge]
      exact h.2 t
  | [], _ :: _, _, _, _, hl, _, _ => by simp at hl
  | _ :: _, [], _, _, _, hl, _, _ => by simp at hl
  | [], [], _ :: _, _, _, _, hv, _ => by have := hv.1; simp at this
  | _ :: _, _ :: _, [], _, _, _, hv, _ => by have := hv.1; simp at this

theorem loop_obj (h : HR ρ w0 hp w) {l L m : Nat} {st : LoopState} {tm : T KV} {n : Nat} {ps : List Nat} {a b : Code} {d : Nat} (hl : ρ l = some (L, m)) (ho : hp.get l = some (.loop st tm n ps a b d)) :
    ∃ f tms D m', w.heap[L]? = some (.loop { state := st, pending := none, fn := f, tmps := tms, params := ps.toArray, assign := a, body := b, defers := D }) ∧ ρ d = some (D, m') ∧ TR ρ n tm tms := by
  obtain ⟨obj, h1, f, tms, D, m', rfl, h2, h3⟩ := h.get hl ho
  exact ⟨f, tms, D, m', h1, h2, h3⟩

theorem round_sound {ih : Run} (hih : Sound E ih) {l : Nat} {args : List KV} {hp : T KO} {nx : Nat} {rs : List Res} (hk : body E ih (.round l args hp nx) = some rs) : TaskOk E (.round l args hp nx) rs := by
  simp only [body] at hk
  split at hk
  · rename_i tm n ps assign b d ho
    obtain ⟨hlen, hk⟩ := bifS hk
    have hlen := beqT hlen
    intro ρ w0 F N L m vs w hL hF hv hh
    obtain ⟨f, tms, D, m', hobj, hD, ht⟩ := loop_obj hh hL ho
    have hsz : vs.toArray.size = ps.toArray.size := by simp [← hv.1, hlen]
    have hy := run_yield (P := E.P) (args := vs.toArray) hobj (by simpa using hsz)
    refine ⟨f, _, assign, b, hy, ?_⟩
    have hz : ((ps.toArray.zip vs.toArray).foldl (fun (tmps : Array Value) (p : Tmp × Value) => tmps.setIfInBounds p.1 p.2) tms) = ((ps.zip vs).foldl (fun (t : Array Value) (p : Nat × Value) => t.setIfInBounds p.1 p.2) tms) := by
      rw [← Array.foldl_toList]
      simp
    have htr : TR ρ n (setAll n ps args tm) ((ps.toArray.zip vs.toArray).foldl (fun (tmps : Array Value) (p : Tmp × Value) => tmps.setIfInBounds p.1 p.2) tms) := by
      rw [hz]; exact setAll_TR hlen hv ht
    have hFr : F.inRound L = Fence.wide.inRound L := by
      rcases hF with rfl | ⟨L', rfl⟩ <;> rfl
    split at hk
    · rename_i rs1 hk1
      refine roundIn_of_wpIn (hF.fn f) ?_
      rw [hFr]
      refine hih _ _ hk1 ρ w0 (Fence.wide.inRound L) N { tmps := _, defers := [] } w ⟨L, m, hL, rfl⟩ ⟨htr, trivial, hh⟩ _ (fun r hr ρ1 a1 w1 he1 h1 => ?_)
      obtain ⟨bs, hbs, hmem⟩ := bindL_some hk r hr
      unfold kround at hbs
      split at hbs
      · rename_i tm1 n1 ps1 a1' b1 d1 hex hdf hget
        have hL1 := he1 _ _ hL
        obtain ⟨f1, tms1, D1, m1, hobj1, hD1, ht1⟩ := loop_obj h1.2.2 hL1 hget
        rw [hex]
        have hdf1 : a1.defers = [] := by
          have := h1.2.1
          rw [hdf] at this
          cases hds : a1.defers with
          | nil => rfl
          | cons x xs => rw [hds] at this; exact this.elim
        split at hbs
        · rename_i rs2 hk2
          refine ⟨_, run_beginRound hobj1 rfl, ?_⟩
          have hh2 : HR ρ1 w0 (r.s.hp.set l (.loop .busy tm1 n1 ps1 a1' b1 d1)) (w1.putObj L (.loop { state := .busy, pending := none, fn := f1, tmps := tms1, params := ps1.toArray, assign := a1', body := b1, defers := D1 })) := h1.2.2.putObj hL1 (by rw [hget]; simp) ⟨f1, tms1, D1, m1, rfl, hD1, ht1⟩
          refine hih _ _ hk2 ρ1 w0 (Fence.wide.inRound L) N a1 _ ⟨L, m, hL1, rfl⟩ ⟨h1.1, h1.2.1, hh2⟩ _ (fun r2 hr2 ρ2 a2 w2 he2 h2 => ?_)
          obtain ⟨cs, hcs, hmem2⟩ := bindL_some hbs r2 hr2
          unfold kroundEnd at hcs
          split at hcs
          · rename_i st2 tm2 n2 ps2 a2' b2 d2 hex2 hdf2 hget2
            cases hcs
            have hL2 := he2 _ _ hL1
            obtain ⟨f2, tms2, D2, m2, hobj2, hD2, ht2⟩ := loop_obj h2.2.2 hL2 hget2
            rw [hex2]
            refine ⟨_, _, run_endRound none hobj2, _, hmem _ (hmem2 _ (List.mem_singleton.2 rfl)), ρ2, .bool true, rfl, he1.trans he2, .bool true, ?_⟩
            exact h2.2.2.putObj hL2 (by rw [hget2]; simp) ⟨f2, tms2, D2, m2, rfl, hD2, ht2⟩
          · cases hcs
        · cases hbs
      · cases hbs
    · cases hk
  · cases hk
end Go.KX

set_option linter.unusedVariables false
set_option linter.unusedSimpArgs false
set_option maxRecDepth 20000
namespace Go.KX
open Go.RowKit (Below)
variable {E : Env} {ρ : Ren} {w0 w : World} {hp : T KO}

theorem rangeFunc_sound {ih : Run} (hih : Sound E ih) {rd : Option Nat} {n : Nat} {f : Operand} {ps : Array Tmp} {assign b : Code} {s : KS} {rs : List Res} (hk : body E ih (.code rd n (.rangeFunc f ps assign b) s) = some rs) : TaskOk E (.code rd n (.rangeFunc f ps assign b) s) rs := by
  simp only [body] at hk
  intro ρ w0 F N a w hF h Q hQ
  split at hk
  · rename_i d g first caps hd hf
    obtain ⟨hfr, hk⟩ := bifS hk
    simp only [Bool.and_eq_true] at hfr
    have hf0 := fresh_spec hfr.1
    have hf1 := fresh_spec hfr.2
    split at hk
    · rename_i rs1 hk1
      have hv : VR ρ (.fn g first caps) (a.eval f) := kopd_sound h.1 hf
      generalize hfe : a.eval f = fe at hv
      cases hv with | fn _ _ _ as bs v1 v2 v3 v4 =>
      obtain ⟨henter, hcall⟩ := hih _ _ hk1
      refine wpIn_rangeFunc (fun fnid _ => ?_)
      -- the call, whatever has been laid
      have key : ∀ (l : Nat) (mark : List Deferred) (w1 : World) (ρ1 : Ren) (m1 : Nat), (Instr.enterLoop fnid a.tmps ps assign b F.round).run E.P w = .ok (l, mark) w1 → Ext ρ ρ1 → ρ1 (s.nx + 1) = some (l, m1) →
          HR ρ1 w0 ((khp rd s).set (s.nx + 1) (.loop .ready s.tm n ps.toList assign b d)) w1 →
          DR ρ1 (kdf rd s) (mark ++ a.defers) →
          ∃ (l : Nat) (mark : List Deferred) (w₁ : World) (d : Deferred) (w₁' : World) (f_1 : FuncId) (args : Array Value) (w₂ : World),
            (Instr.enterLoop fnid a.tmps ps assign b F.round).run E.P w = .ok (l, mark) w₁ ∧ (resolve a.eval (rangeCall f l) 0).run E.P w₁ = .ok d w₁' ∧ (∀ f', Target.leads E.P w₁' d.target d.args = some f' → F.fn f') ∧
            (invoke d.target d.args).run E.P w₁' = .ok (.enter f_1 args) w₂ ∧ (F.depth.isSome = true → 1 ≤ N) ∧ CallsIn F (N - 1) E.P f_1 args w₂ (rangePost F N E.P l Q { a with defers := mark ++ a.defers }) := by
        intro l mark w1 ρ1 m1 hent he1 hl hh1 hdr
        have hargs : VRs ρ1 (first ++ [.yld (s.nx + 1)] ++ caps) (as.toList ++ [.func (.yield l) #[] #[]] ++ bs.toList) := ((VRs.mono he1 ⟨v1, v2⟩).append (.cons (.yld _ l m1 hl) .nil)).append (VRs.mono he1 ⟨v3, v4⟩)
        have harr : (as.toList ++ [Value.func (.yield l) #[] #[]] ++ bs.toList).toArray = (as ++ #[.func (.yield l) #[] #[]]) ++ bs := Array.ext' (by simp)
        refine ⟨l, mark, w1, { target := .fn (.func g) bs, args := as ++ #[.func (.yield l) #[] #[]] }, w1, g, (as ++ #[.func (.yield l) #[] #[]]) ++ bs, w1, hent, ?_, fun f' _ => hF.wd.fn f', ?_, hF.wd.depth, ?_⟩
        · simp only [resolve, hfe, Deferred.ofValue, Sem.run_bind, Sem.run_pure, Result.andThen_ok]
          simp [Act.eval]
        · simp only [invoke]; exact henter _ _
        · have hc := hcall ρ1 w0 (N - 1) _ w1 hargs hh1
          rw [harr] at hc
          refine (hF.wd.calls hc).mono ?_
          rintro e w2 ⟨r, hr, ρ2, v, rfl, he2, hv2, hh2⟩
          obtain ⟨cs, hcs, hmem⟩ := bindL_some hk r hr
          unfold krangeEnd at hcs
          split at hcs
          · rename_i tm2 n2 ps2 a2 b2 d2 hget
            cases hcs
            have hl2 := he2 _ _ hl
            obtain ⟨f2, tms2, D2, m2, hobj, hD2, ht2⟩ := loop_obj hh2 hl2 hget
            refine ⟨none, _, run_endLoop hobj (by simp), ?_⟩
            have hh3 : HR ρ2 w0 (r.s.hp.set (s.nx + 1) .dead) (w2.putObj l (.loop { state := .exhausted, pending := none, fn := f2, tmps := tms2, params := ps2.toArray, assign := a2, body := b2, defers := D2 })) := hh2.putObj hl2 (by rw [hget]; simp) trivial
            exact hQ _ (hmem _ (List.mem_singleton.2 rfl)) ρ2 _ _ (he1.trans he2) ⟨h.1.mono (he1.trans he2), hdr.mono he2, hh3⟩
          · cases hcs
      cases rd with
      | none =>
        have hFw : F = Fence.wide := hF
        subst hFw
        simp only [kdefers, Option.some.injEq] at hd
        subst hd
        obtain ⟨g1, g2⟩ := h.2.2.new (b := s.nx) (m := 0) hf0 (o := .defd true) (obj := .deferred (some [])) rfl
        have hf1' : (s.hp.set s.nx (.defd true)).get (s.nx + 1) = none := by rw [T.get_set, if_neg (by omega)]; exact hf1
        have hEx : Ext (ρ.upd s.nx (w.heap.size, 0)) ((ρ.upd s.nx (w.heap.size, 0)).upd (s.nx + 1) ((w.alloc (.deferred (some []))).heap.size, 0)) := Ren.ext_upd (g1.none hf1')
        obtain ⟨g3, g4⟩ := g1.new (b := s.nx + 1) (m := 0) hf1' (o := .loop .ready s.tm n ps.toList assign b s.nx) (obj := .loop { state := .ready, pending := none, fn := fnid, tmps := a.tmps, params := ps, assign := assign, body := b, defers := w.heap.size })
          ⟨fnid, a.tmps, w.heap.size, 0, by simp, hEx _ _ (Ren.upd_same _ _), h.1.mono (g2.trans hEx)⟩
        refine key (w.heap.size + 1) [{ target := .collected w.heap.size, args := #[] }] _ _ 0 (run_enterLoop_outer fnid a.tmps ps assign b) (g2.trans g4) ?_ g3 ?_
        · have : (w.alloc (.deferred (some []))).heap.size = w.heap.size + 1 := World.size_alloc _ _
          rw [← this]; exact Ren.upd_same _ _
        · exact ⟨⟨w.heap.size, 0, hEx _ _ (Ren.upd_same _ _), rfl⟩, h.2.1.mono (g2.trans g4)⟩
      | some l0 =>
        obtain ⟨L0, m0, hL0, rfl⟩ := hF
        simp only [kdefers] at hd
        split at hd
        · rename_i st0 tm0 n0 ps0 a0 b0 d0 ho0
          cases hd
          obtain ⟨f0, tms0, D0, md, hobj0, hD0, ht0⟩ := loop_obj h.2.2 hL0 ho0
          have hEx : Ext ρ (ρ.upd (s.nx + 1) (w.heap.size, 0)) := Ren.ext_upd (h.2.2.none hf1)
          obtain ⟨g3, g4⟩ := h.2.2.new (b := s.nx + 1) (m := 0) hf1 (o := .loop .ready s.tm n ps.toList assign b d) (obj := .loop { state := .ready, pending := none, fn := fnid, tmps := a.tmps, params := ps, assign := assign, body := b, defers := D0 })
            ⟨fnid, a.tmps, D0, md, by simp, hEx _ _ hD0, h.1.mono hEx⟩
          exact key w.heap.size [] _ _ 0 (run_enterLoop_inner hobj0 fnid a.tmps ps assign b) g4 (Ren.upd_same _ _) g3 (h.2.1.mono g4)
        · cases hd
    · cases hk
  · cases hk

theorem code_sound (hE : EnvOk E) {ih : Run} (hih : Sound E ih) {rd : Option Nat} {n : Nat} {c : Code} {s : KS} {rs : List Res} (hl : ∀ a, c ≠ .loop a) (hk : body E ih (.code rd n c s) = some rs) : TaskOk E (.code rd n c s) rs := by
  cases c with
  | rangeFunc f ps assign b => exact rangeFunc_sound hih hk
  | loop a => exact absurd rfl (hl a)
  | skip =>
    simp only [body, Option.some.injEq] at hk; subst hk
    intro ρ w0 F N a w hF h Q hQ
    exact wpIn_skip (hQ _ (List.mem_singleton.2 rfl) ρ a w (.refl _) h)
  | label l =>
    simp only [body, Option.some.injEq] at hk; subst hk
    intro ρ w0 F N a w hF h Q hQ
    exact wpIn_label (hQ _ (List.mem_singleton.2 rfl) ρ a w (.refl _) h)
  | exit id =>
    simp only [body, Option.some.injEq] at hk; subst hk
    intro ρ w0 F N a w hF h Q hQ
    exact wpIn_exit (hQ _ (List.mem_singleton.2 rfl) ρ a w (.refl _) h)
  | ret =>
    simp only [body, Option.some.injEq] at hk; subst hk
    intro ρ w0 F N a w hF h Q hQ
    exact wpIn_ret (hQ _ (List.mem_singleton.2 rfl) ρ a w (.refl _) h)
  | region id ops draw =>
    simp only [body] at hk
    intro ρ w0 F N a w hF h Q hQ
    cases hr : kregion E ih n ops draw s with
    | none => rw [hr] at hk; cases hk
    | some ss =>
      rw [hr] at hk
      simp only [Option.map_some, Option.some.injEq] at hk; subst hk
      exact kregion_sound hE hih hr h hF.wd (fun s' hs' ρ' a' w' k1 k2 => hQ ⟨.normal, .tup [], s'⟩ (List.mem_map.2 ⟨s', hs', rfl⟩) ρ' a' w' k1 k2)
  | seq x y =>
    simp only [body] at hk
    intro ρ w0 F N a w hF h Q hQ
    split at hk
    · rename_i rs1 hk1
      refine wpIn_seq (hih _ _ hk1 ρ w0 F N a w hF h _ (fun r hr ρ1 a1 w1 he1 h1 => ?_))
      obtain ⟨bs, hbs, hmem⟩ := bindL_some hk r hr
      cases hex : r.ex with
      | normal =>
        rw [hex] at hbs
        simp only at hbs
        exact hih _ _ hbs ρ1 w0 F N a1 w1 (hF.mono he1) h1 _ (fun r2 hr2 ρ2 a2 w2 he2 h2 => hQ r2 (hmem r2 hr2) ρ2 a2 w2 (he1.trans he2) h2)
      | exit id =>
        rw [hex] at hbs
        simp only [Option.some.injEq] at hbs; subst hbs
        have := hQ r (hmem r (List.mem_singleton.2 rfl)) ρ1 a1 w1 he1 h1
        rw [hex] at this; exact this
      | ret =>
        rw [hex] at hbs
        simp only [Option.some.injEq] at hbs; subst hbs
        have := hQ r (hmem r (List.mem_singleton.2 rfl)) ρ1 a1 w1 he1 h1
        rw [hex] at this; exact this
    · cases hk
  | cond x y z =>
    simp only [body] at hk
    intro ρ w0 F N a w hF h Q hQ
    split at hk
    · rename_i t ht
      have hv : VR ρ (.bool t) (a.eval x) := kopd_sound h.1 ht
      have he : a.eval x = .bool t := by
        generalize a.eval x = v at hv
        cases hv; rfl
      refine wpIn_cond he ?_
      cases t
      · exact hih _ _ hk ρ w0 F N a w hF h Q hQ
      · exact hih _ _ hk ρ w0 F N a w hF h Q hQ
    · cases hk
  | block id x =>
    simp only [body] at hk
    intro ρ w0 F N a w hF h Q hQ
    split at hk
    · rename_i rs1 hk1
      simp only [Option.some.injEq] at hk
      refine wpIn_block (hih _ _ hk1 ρ w0 F N a w hF h _ (fun r hr ρ1 a1 w1 he1 h1 => ?_))
      have hm : kblk id r ∈ rs := by rw [← hk]; exact List.mem_map.2 ⟨r, hr, rfl⟩
      unfold kblk at hm
      cases hex : r.ex with
      | normal =>
        simp only [hex] at hm
        have := hQ _ hm ρ1 a1 w1 he1 h1
        rw [hex] at this; exact this
      | ret =>
        simp only [hex] at hm
        have := hQ _ hm ρ1 a1 w1 he1 h1
        rw [hex] at this; exact this
      | exit i =>
        simp only [hex] at hm
        simp only [exQ, Exit.inBlock]
        by_cases e : i = id
        · rw [if_pos e] at hm ⊢
          exact hQ _ hm ρ1 a1 w1 he1 h1
        · rw [if_neg e] at hm ⊢
          have := hQ _ hm ρ1 a1 w1 he1 h1
          rw [hex] at this; exact this
    · cases hk
  | scope x => simp [body] at hk
  | goto l => simp [body] at hk
  | refuse m => simp [body] at hk

theorem run_sound (hE : EnvOk E) : ∀ f, Sound E (run E f) := by
  intro f
  induction f using Nat.strongRecOn with
  | _ f ih =>
    cases f with
    | zero => intro t rs h; exact absurd h (by simp [run])
    | succ f =>
      intro t rs h
      cases t with
      | code rd n c s =>
        by_cases hl : ∃ a, c = .loop a
        · obtain ⟨a, rfl⟩ := hl
          exact loop_sound (fun j hj => ih j hj) h
        · rw [run_succ] at h
          exact code_sound hE (ih f (by omega)) (fun a e => hl ⟨a, e⟩) h
      | call g args hp nx => rw [run_succ] at h; exact call_sound hE (ih f (by omega)) h
      | round l args hp nx => rw [run_succ] at h; exact round_sound (ih f (by omega)) h

/-- a call without arguments, in whatever world -/
theorem closed_calls (hE : EnvOk E) {f : FuncId} {fuel nx : Nat} {p : KV → Bool} (h : (match run E fuel (.call f [] .e nx) with | some rs => rs.all fun r => p r.v | none => false) = true) (w : World) :
    Calls E.P f #[] w fun e w' => ∃ (ρ : Ren) (k : KV) (v : Value), p k = true ∧ e = .returned v ∧ VR ρ k v ∧ Below w.heap.size w w' := by
  cases hr : run E fuel (.call f [] .e nx) with
  | none => rw [hr] at h; cases h
  | some rs =>
    rw [hr] at h
    have hs := (run_sound hE fuel _ _ hr).2 (fun _ => none) w 0 [] w VRs.nil ⟨Below.refl _ _, fun b B m e => by (cases e), fun b B m e => by (cases e), fun b b' B m m' e => by (cases e)⟩
    refine callsIn_wide.1 (hs.mono ?_)
    rintro e w' ⟨r, hr, ρ', v, rfl, _, hv, hh⟩
    exact ⟨ρ', r.v, v, List.all_eq_true.1 h r hr, rfl, hv, hh.below⟩

def isTrue (v : KV) : Bool := match v with | .bool b => b | _ => false

/-- .. that returns true -/
theorem closed_true (hE : EnvOk E) {f : FuncId} {fuel nx : Nat} (h : (match run E fuel (.call f [] .e nx) with | some rs => rs.all fun r => isTrue r.v | none => false) = true) (w : World) :
    Calls E.P f #[] w fun e w' => e = .returned (.bool true) ∧ Below w.heap.size w w' := by
  have := closed_calls hE h w
  intro cs
  obtain ⟨e, w', fr, ⟨ρ, k, v, h1, h2, h3, h4⟩, rest⟩ := this cs
  refine ⟨e, w', fr, ⟨?_, h4⟩, rest⟩
  rw [h2]
  cases k <;> simp [isTrue] at h1
  subst h1
  cases h3
  rfl
end Go.KX

set_option linter.unusedVariables false
set_option linter.unusedSimpArgs false
set_option maxRecDepth 20000
namespace Go.KX
open Go.RowKit (Below)

/-! ## Entries -/
def kidx (c : Nat) : List UInt8 → Nat → Int
  | [], _ => -1
  | b :: r, i => bif Nat.beq b.toNat c then Int.ofNat i else kidx c r (i + 1)
def kcnt (c : Nat) : List UInt8 → Nat
  | [] => 0
  | b :: r => bif Nat.beq b.toNat c then kcnt c r + 1 else kcnt c r

theorem beq_byte (a c : UInt8) : Nat.beq a.toNat c.toNat = (a == c) := by
  by_cases h : a = c
  · subst h; simp
  · rw [beqF (fun e => h (UInt8.toNat.inj e))]
    simp [h]

theorem idx_eq (c : UInt8) : ∀ (l : List UInt8) (k : Nat), (match ((List.range l.length).find? fun i => l[i]! == c) with | some i => Int.ofNat (i + k) | none => -1) = kidx c.toNat l k
  | [], k => by simp [kidx]
  | b :: l, k => by
    have ih := idx_eq c l (k + 1)
    rw [show (b :: l).length = l.length + 1 from rfl, Go.Lib.find_range_succ]
    simp only [kidx, beq_byte]
    cases h : b == c
    · simp only [List.getElem!_cons_zero, h, List.getElem!_cons_succ, cond_false, Bool.false_eq_true, if_false]
      rw [← ih]
      cases (List.range l.length).find? fun i => l[i]! == c with
      | none => rfl
      | some i => simp only [Option.map_some]; congr 1; omega
    · simp [h]

theorem firstIdx_eq (b : ByteArray) (c : UInt8) : firstIdx b c = kidx c.toNat b.data.toList 0 := by
  rw [← idx_eq]
  unfold firstIdx
  have e : b.size = b.data.toList.length := rfl
  rw [e]
  have h2 : (fun (i : Nat) => b[i]! == c) = fun (i : Nat) => b.data.toList[i]! == c := by
    funext (i : Nat)
    have : b[i]! = b.data[i]! := by
      by_cases h : i < b.size
      · rw [getElem!_pos b i h, getElem!_pos b.data i h]; rfl
      · rw [getElem!_neg b i h, getElem!_neg b.data i h]
    rw [this, Array.getElem!_toList]
  rw [h2]
  cases (List.range b.data.toList.length).find? fun i => b.data.toList[i]! == c <;> rfl

theorem cnt_eq (c : UInt8) : ∀ l : List UInt8, Go.Lib.countByte l c = kcnt c.toNat l
  | [] => by simp [Go.Lib.countByte, kcnt]
  | b :: l => by
    have ih := cnt_eq c l
    simp only [Go.Lib.countByte, kcnt, beq_byte] at *
    rw [List.count_cons, ih]
    cases b == c <;> simp

def kIndexByte : List KV → Option KV
  | [.str s, .int .u8 c] => some (.int .i64 (kidx c.toNat.toUInt8.toNat s 0))
  | _ => none
def kCountString : List KV → Option KV
  | [.str s, .int .u8 c] => some (.int .i64 (Int.ofNat (kcnt c.toNat.toUInt8.toNat s)))
  | _ => none

/-- an entry answers what its model does -/
def EntryOk (P : Program) (g : FuncId) (e : List KV → Option KV) : Prop :=
  ∀ args v, e args = some v → ∀ (ρ : Ren) (vs : List Value) (w : World), VRs ρ args vs → ∃ u, (callFunc g vs.toArray).run P w = .ok (.value u) w ∧ VR ρ v u

variable {P : Program}

theorem entry_str_byte {g : FuncId} {fn : Func} {e : Array Value → Sem Value} {k : List KV → Option KV} (hf : P.funcs[g]? = some fn) (hname : (fn.name == "runtime.NumGoroutine") = false)
    (hb : fn.body.isNone = true) (hn : Extern.findNext fn = none) (he : Extern.find fn = some e)
    (hk : ∀ args v, k args = some v → ∃ s c, args = [.str s, .int .u8 c])
    (hr : ∀ (s : ByteArray) (c : Int) (w : World) v, k [.str s.data.toList, .int .u8 c] = some v → ∃ n, v = .int .i64 n ∧ (e #[.string s, .int .u8 c]).run P w = .ok (.int .i64 n) w) : EntryOk P g k := by
  intro args v hv ρ vs w hvs
  obtain ⟨s, c, rfl⟩ := hk _ _ hv
  match vs, hvs with
  | [a, b], hvs =>
    have h0 := hvs.2 0 _ a rfl rfl
    have h1 := hvs.2 1 _ b rfl rfl
    cases h0 with | str _ bs e1 =>
    cases h1 with | int _ _ =>
    subst e1
    obtain ⟨n, rfl, h2⟩ := hr bs c w _ hv
    refine ⟨.int .i64 n, ?_, .int _ _⟩
    rw [run_callFunc_extern hf hname hb hn he]
    rw [show [Value.string bs, Value.int .u8 c].toArray = #[.string bs, .int .u8 c] from rfl, h2]
    rfl
  | [], hvs => exact absurd hvs.1 (by simp)
  | [a], hvs => exact absurd hvs.1 (by simp)
  | a :: b :: c :: r, hvs => exact absurd hvs.1 (by simp)

theorem entry_indexByte {g : FuncId} {fn : Func} (hf : P.funcs[g]? = some fn) (hname : (fn.name == "runtime.NumGoroutine") = false)
    (hb : fn.body.isNone = true) (hn : Extern.findNext fn = none) (he : Extern.find fn = some Extern.BytealgIndexByte.indexByte) : EntryOk P g kIndexByte := by
  refine entry_str_byte hf hname hb hn he (fun args v h => ?_) (fun s c w v h => ?_)
  · unfold kIndexByte at h
    split at h
    · exact ⟨_, _, rfl⟩
    · cases h
  · simp only [kIndexByte, Option.some.injEq] at h
    subst h
    refine ⟨_, rfl, ?_⟩
    rw [run_indexByte_string, firstIdx_eq]

theorem entry_countString {g : FuncId} {fn : Func} (hf : P.funcs[g]? = some fn) (hname : (fn.name == "runtime.NumGoroutine") = false)
    (hb : fn.body.isNone = true) (hn : Extern.findNext fn = none) (he : Extern.find fn = some Extern.BytealgCount.count) : EntryOk P g kCountString := by
  refine entry_str_byte hf hname hb hn he (fun args v h => ?_) (fun s c w v h => ?_)
  · unfold kCountString at h
    split at h
    · exact ⟨_, _, rfl⟩
    · cases h
  · simp only [kCountString, Option.some.injEq] at h
    subst h
    refine ⟨_, rfl, ?_⟩
    rw [Go.Lib.run_countString, cnt_eq]
    rfl

/-! ## A law's answer -/
open Go.ChangeShapes
section
variable {H : Type} {enc : TypeId × Value → H}

theorem stays_all {W W' : World} (hl : laidOutB P = true) (hb : Below W.heap.size W W') : ∀ {ts : List TypeId} {vs : List Value} {ds : List (DataW H)} {ps : List MemPlace}, (∀ t ∈ ts, P.readableRec t = true ∧ t < P.types.size) →
    DataW.TrodAll enc P W 0 (fun _ => true) true ts vs ds ps → (∀ x ∈ ps, x.block < W.heap.size) → ∀ sp : Nat → Bool, (∀ x ∈ ps, sp x.block = true) → DataW.TrodAll enc P W' 0 sp true ts vs ds ps
  | [], vs, ds, ps, ht, h, hlt, sp, hsp => by
    obtain ⟨rfl, rfl, rfl⟩ := trodAll_nil h
    exact rfl
  | t :: ts, vs, ds, ps, ht, h, hlt, sp, hsp => by
    obtain ⟨v0, vs0, d0, ds0, p0, q0, rfl, rfl, rfl, h0, r0⟩ := trodAll_cons h
    refine ⟨p0, q0, ?_, ?_, rfl⟩
    · exact WideElems.Trod_stays hl (ht t (by simp)).1 (ht t (by simp)).2 h0 (fun x hx => hb.same (hlt x (by simp [hx]))) (fun x hx => hsp x (by simp [hx]))
    · exact stays_all hl hb (fun u hu => ht u (by simp [hu])) r0 (fun x hx => hlt x (by simp [hx])) sp (fun x hx => hsp x (by simp [hx]))

/-- a law's result: 'true', the arguments as they were -/
theorem post_below {f : Func} {s : ChangeSpec} {apart fresh handsOn again : Bool} {W W' : World} {args : Array Value} {ds gs : List (DataW H)} {before : List MemPlace} {bt : TypeId} (hl : laidOutB P = true)
    (hr : ∀ t ∈ f.params.toList, P.readableRec t = true ∧ t < P.types.size) (hvars : s.vars = []) (hres : f.resultTypes = #[bt]) (hbt : P.underlying bt = some .bool)
    (hfn : ∀ ds : List (DataW H), ds.length = f.params.size → s.fn H ds = { results := [.lit (.bool true)], args := ds })
    (hW : DataW.Whole enc P f.params.toList s.vars apart W args.toList ds gs before) (hb : Below W.heap.size W W') : s.post enc P f apart fresh handsOn again W args (.bool true) W' := by
  have hlt := hW.lt
  have hW0 := hW
  obtain ⟨p, q, hA, hV, rfl, hz, hn⟩ := hW
  rw [hvars] at hV
  obtain ⟨rfl, rfl⟩ := trodVars_none hV
  have hlen : ∀ {ts : List TypeId} {vs : List Value} {ds : List (DataW H)} {ps : List MemPlace}, DataW.TrodAll enc P W 0 (fun _ => true) true ts vs ds ps → ds.length = ts.length := by
    intro ts
    induction ts with
    | nil => intro vs ds ps h; obtain ⟨_, rfl, _⟩ := trodAll_nil h; rfl
    | cons t ts ih =>
      intro vs ds ps h
      obtain ⟨v0, vs0, d0, ds0, p0, q0, rfl, rfl, rfl, h0, r0⟩ := trodAll_cons h
      simp [ih r0]
  have hfd := hfn ds (by simpa using hlen hA)
  simp only [List.append_nil] at hlt hz hn hfd ⊢
  have lt : ∀ x ∈ p, x.block < W.heap.size := fun x hx => hlt x (by simpa using hx)
  have stay := stays_all hl hb hr hA lt
  have hrl : (Value.bool true).resultList f.resultTypes.size = [.bool true] := by rw [hres]; rfl
  have rr : ∀ (b : Nat) (sp : Nat → Bool) (hd : Bool), DataW.TrodAll enc P W' b sp hd f.resultTypes.toList ((Value.bool true).resultList f.resultTypes.size) [.lit (.bool true)] [] := by
    intro b sp hd
    rw [hrl, hres]
    exact trodAll_mk1 (RowKit.shut_bool hbt _)
  refine ⟨ds, [], p ++ [], [], p, [], hW0, ?_, ?_, ?_, ?_, fun _ => ?_⟩
  · rw [List.append_nil, hfd]; exact rr _ _ _
  · rw [List.append_nil, hfd]; exact stay _ (fun x hx => by simpa using lt x hx)
  · rw [hvars, List.append_nil, hfd]; exact rfl
  · exact World.keptBut_mono (fun x hx => ⟨hx, .inr (.inl (by simpa using hx))⟩) (hb.frame _)
  · refine ⟨?_, _, [], ([] ++ p) ++ [], ⟨[] ++ p, [], trodAll_append (stay _ (fun _ _ => rfl)) (rr _ _ _), ?_, rfl, ?_, ?_⟩, ?_⟩
    · refine RowKit.ok_one hres rfl ?_
      simp only [Value.okWide, hbt, Cell.okWide, Cell.ok]
    · rw [hvars]; exact rfl
    · intro b off hx
      have hx' : MemPlace.cell b off ∈ p := by simpa using hx
      rw [hb.frozen (p := ⟨b, off, none⟩) (lt _ hx')]
      exact hz b off hx'
    · intro ha; simpa using hn ha
    · intro x hx _; simpa using hx

/-- A LAW WITHOUT ARGUMENTS, run in the kernel -/
theorem law_closed {E : Env} {g : FuncId} {f : Func} {s : ChangeSpec} {bt : TypeId} {fuel nx : Nat} (hE : EnvOk E) (hl : laidOutB E.P = true) (hps : f.params = #[]) (hvars : s.vars = []) (hres : f.resultTypes = #[bt]) (hbt : E.P.underlying bt = some .bool)
    (hfn : ∀ ds : List (DataW H), ds.length = f.params.size → s.fn H ds = { results := [.lit (.bool true)], args := ds })
    (h : (match run E fuel (.call g [] .e nx) with | some rs => rs.all fun r => isTrue r.v | none => false) = true)
    {W : World} {args : Array Value} {ds gs : List (DataW H)} {before : List MemPlace} (hW : DataW.Whole enc E.P f.params.toList s.vars false W args.toList ds gs before) :
    Calls E.P g args W fun e W' => ∃ v, e = .returned v ∧ s.post enc E.P f false true false false W args v W' := by
  have hargs : args = #[] := by
    obtain ⟨p, q, hA, hV, _, _, _⟩ := id hW
    rw [hps] at hA
    obtain ⟨h1, _, _⟩ := trodAll_nil hA
    exact Array.ext' (by simpa using h1)
  subst hargs
  refine (closed_true hE h W).mono fun e W' ⟨he, hb⟩ => ⟨_, he, post_below hl (fun t ht => ?_) hvars hres hbt hfn hW hb⟩
  rw [hps] at ht
  simp at ht
end
end Go.KX
