/-
  Regions: what an operation looks at; equal states.
-/
import Derived.Test.YtcdofkflbnpjjaaDoorK13
import Derived.Test.YtcdofkflbnpjjaaDoorK2
import Derived.RangeFuncCalls
import Derived.RangeFuncNested
set_option linter.unusedVariables false
set_option linter.unusedSimpArgs false
set_option maxRecDepth 20000
namespace Go.KX
open Go.RowKit (Below)
variable {P : Program} {F : List TypeId} {ρ : Ren} {w0 w : World} {hp : T KO}

/-! ## Equal values, equal states -/
mutual
theorem KV.eqb_eq : ∀ {a b : KV}, KV.eqb a b = true → a = b
  | .bool a, b, h => by cases b <;> simp [KV.eqb] at h; subst h; rfl
  | .int j a, b, h => by cases b <;> simp [KV.eqb] at h; obtain ⟨rfl, rfl⟩ := h; rfl
  | .str a, b, h => by cases b <;> simp [KV.eqb] at h; subst h; rfl
  | .nilp, b, h => by cases b <;> simp [KV.eqb] at h; rfl
  | .ptr a i, b, h => by cases b <;> simp [KV.eqb] at h; obtain ⟨rfl, rfl⟩ := h; rfl
  | .nilsl, b, h => by cases b <;> simp [KV.eqb] at h; rfl
  | .sl a i l c, b, h => by cases b <;> simp [KV.eqb] at h; obtain ⟨⟨⟨rfl, rfl⟩, rfl⟩, rfl⟩ := h; rfl
  | .slo a i l c k, b, h => by cases b <;> simp [KV.eqb] at h; obtain ⟨⟨⟨⟨rfl, rfl⟩, rfl⟩, rfl⟩, rfl⟩ := h; rfl
  | .slz, b, h => by cases b <;> simp [KV.eqb] at h; rfl
  | .nilmap, b, h => by cases b <;> simp [KV.eqb] at h; rfl
  | .map a, b, h => by cases b <;> simp [KV.eqb] at h; subst h; rfl
  | .nilf, b, h => by cases b <;> simp [KV.eqb] at h; rfl
  | .fn f xs ys, b, h => by
    cases b <;> simp [KV.eqb] at h
    obtain ⟨⟨rfl, h1⟩, h2⟩ := h
    rw [KV.eqs_eq h1, KV.eqs_eq h2]
  | .yld a, b, h => by cases b <;> simp [KV.eqb] at h; subst h; rfl
  | .agg xs, b, h => by cases b <;> simp [KV.eqb] at h; rw [KV.eqs_eq h]
  | .tup xs, b, h => by cases b <;> simp [KV.eqb] at h; rw [KV.eqs_eq h]
theorem KV.eqs_eq : ∀ {a b : List KV}, KV.eqs a b = true → a = b
  | [], b, h => by cases b <;> simp [KV.eqs] at h; rfl
  | x :: xs, b, h => by
    cases b with
    | nil => simp [KV.eqs] at h
    | cons y ys =>
      simp [KV.eqs] at h
      rw [KV.eqb_eq h.1, KV.eqs_eq h.2]
end

theorem leqb_eq {α : Type} {f : α → α → Bool} (hf : ∀ a b, f a b = true → a = b) : ∀ {a b : List α}, leqb f a b = true → a = b
  | [], [], _ => rfl
  | x :: xs, y :: ys, h => by
    simp only [leqb, Bool.and_eq_true] at h
    rw [hf _ _ h.1, leqb_eq hf h.2]
  | [], _ :: _, h => by simp [leqb] at h
  | _ :: _, [], h => by simp [leqb] at h
theorem oeqb_eq {α : Type} {f : α → α → Bool} (hf : ∀ a b, f a b = true → a = b) : ∀ {a b : Option α}, oeqb f a b = true → a = b
  | none, none, _ => rfl
  | some x, some y, h => by rw [hf x y h]
  | none, some _, h => by simp [oeqb] at h
  | some _, none, h => by simp [oeqb] at h
theorem nbeq_eq (a b : Nat) (h : Nat.beq a b = true) : a = b := beqT h
theorem KE.eqb_eq (a b : KE) (h : KE.eqb a b = true) : a = b := by
  obtain ⟨k, v, n⟩ := a
  obtain ⟨k', v', n'⟩ := b
  simp only [KE.eqb, Bool.and_eq_true] at h
  rw [KV.eqb_eq h.1.1, KV.eqb_eq h.1.2, beqT h.2]
theorem KO.eqb_eq (a b : KO) (h : KO.eqb a b = true) : a = b := by
  cases a <;> cases b <;> simp only [KO.eqb, Bool.and_eq_true, reduceCtorEq, Bool.false_eq_true] at h
  · rfl
  · rw [KV.eqs_eq h]
  · rw [leqb_eq KE.eqb_eq h.1, beqT h.2]
  · rw [oeqb_eq nbeq_eq h.1.1.1, beqT h.1.1.2, leqb_eq nbeq_eq h.1.2, beqT h.2]
  · simp at h; rw [h]
  · simp at h; rw [h.1, h.2]
theorem T.eqb_eq {α : Type} {f : α → α → Bool} (hf : ∀ a b, f a b = true → a = b) : ∀ {a b : T α}, T.eqb f a b = true → a = b
  | .e, .e, _ => rfl
  | .n v l r, .n v' l' r', h => by
    simp only [T.eqb, Bool.and_eq_true] at h
    rw [oeqb_eq hf h.1.1, T.eqb_eq hf h.1.2, T.eqb_eq hf h.2]
  | .e, .n .., h => by simp [T.eqb] at h
  | .n .., .e, h => by simp [T.eqb] at h
theorem KS.eqb_eq {a b : KS} (h : KS.eqb a b = true) : a = b := by
  obtain ⟨a1, a2, a3, a4⟩ := a
  obtain ⟨b1, b2, b3, b4⟩ := b
  simp only [KS.eqb, Bool.and_eq_true] at h
  rw [T.eqb_eq (fun _ _ => KV.eqb_eq) h.1.1.1, T.eqb_eq KO.eqb_eq h.1.1.2, beqT h.1.2, leqb_eq nbeq_eq h.2]

theorem merge_mem : ∀ {ss : List KS} {s : KS}, s ∈ ss → s ∈ merge ss
  | t :: ss, s, h => by
    simp only [merge]
    cases hm : (merge ss).any (KS.eqF t) with
    | true =>
      simp only [cond_true]
      rcases List.mem_cons.1 h with rfl | h
      · obtain ⟨u, hu, he⟩ := List.any_eq_true.1 hm
        rw [KS.eqF_eq] at he; rw [KS.eqb_eq he]; exact hu
      · exact merge_mem h
    | false =>
      simp only [cond_false]
      rcases List.mem_cons.1 h with rfl | h
      · exact List.mem_cons_self
      · exact List.mem_cons_of_mem _ (merge_mem h)

theorem bindL_some {α β : Type} {f : α → Option (List β)} : ∀ {l : List α} {r : List β}, bindL f l = some r → ∀ a ∈ l, ∃ bs, f a = some bs ∧ ∀ b ∈ bs, b ∈ r
  | a :: l, r, h, x, hx => by
    simp only [bindL] at h
    split at h
    · rename_i bs hb
      split at h
      · rename_i cs hc
        cases h
        rcases List.mem_cons.1 hx with rfl | hx
        · exact ⟨bs, hb, fun b hb => List.mem_append.2 (.inl hb)⟩
        · obtain ⟨bs', h1, h2⟩ := bindL_some hc x hx
          exact ⟨bs', h1, fun b hb => List.mem_append.2 (.inr (h2 b hb))⟩
      · cases h
    · cases h

/-! ## What an operation looks at -/
theorem omap_congr {α β : Type} {f g : α → Option β} : ∀ {l : List α}, (∀ a ∈ l, f a = g a) → omap f l = omap g l
  | [], _ => rfl
  | a :: l, h => by
    have h1 : ∀ b ∈ l, f b = g b := fun b hb => h b (List.mem_cons_of_mem _ hb)
    simp only [omap, h a List.mem_cons_self, omap_congr h1]

theorem parts_congr {v v' : Operand → Option KV} {ps : List (Nat × Operand)} (h : ∀ p ∈ ps, v p.2 = v' p.2) : parts v ps = parts v' ps := by
  unfold parts
  exact omap_congr fun p hp => by rw [h p hp]

theorem kop_congr {self : Nat} {o : Oper} {v v' : Operand → Option KV} (h : ∀ x ∈ o.op.operands, v x = v' x) : kop P F self hp v o = kop P F self hp v' o := by
  obtain ⟨dst, op, type, pos, after, guard⟩ := o
  have two : ∀ {a b : Operand}, (∀ x, x ∈ (#[a, b] : Array Operand) → v x = v' x) → v a = v' a ∧ v b = v' b := fun h => ⟨h _ (by simp), h _ (by simp)⟩
  cases op with
  | move x => simp only [kop]; rw [h x (by simp [Op.operands])]
  | assign x => simp only [kop]; rw [h x (by simp [Op.operands])]
  | pick c a b => simp only [kop]; rw [h c (by simp [Op.operands]), h a (by simp [Op.operands]), h b (by simp [Op.operands])]
  | alloc t => simp only [kop]
  | box t x => simp only [kop]; rw [h x (by simp [Op.operands])]
  | build t ps =>
    simp only [kop]
    rw [parts_congr (v := v) (v' := v') (fun p hp => h p.2 (by simp only [Op.operands]; simp; exact ⟨p.1, Array.mem_toList_iff.1 hp⟩))]
  | buildSlice t n ps =>
    simp only [kop]
    rw [parts_congr (v := v) (v' := v') (fun p hp => h p.2 (by simp only [Op.operands]; simp; exact ⟨p.1, Array.mem_toList_iff.1 hp⟩))]
  | insert t m k x => simp only [kop]; rw [h m (by simp [Op.operands]), h k (by simp [Op.operands]), h x (by simp [Op.operands])]
  | load t x => simp only [kop]; rw [h x (by simp [Op.operands])]
  | store t x y => simp only [kop]; rw [h x (by simp [Op.operands]), h y (by simp [Op.operands])]
  | nilCheck x => simp only [kop]; rw [h x (by simp [Op.operands])]
  | binOp op t x y yt => simp only [kop]; rw [h x (by simp [Op.operands]), h y (by simp [Op.operands])]
  | unOp op t x => simp only [kop]; rw [h x (by simp [Op.operands])]
  | convert s d x => simp only [kop]; rw [h x (by simp [Op.operands])]
  | makeFunc f a b =>
    cases f with
    | func f =>
      simp only [kop]
      rw [omap_congr (f := v) (g := v') (l := a.toList) (fun x hx => h x (by simp only [Op.operands]; exact Array.mem_append.2 (.inl (Array.mem_toList_iff.1 hx)))), omap_congr (f := v) (g := v') (l := b.toList) (fun x hx => h x (by simp only [Op.operands]; exact Array.mem_append.2 (.inr (Array.mem_toList_iff.1 hx))))]
    | _ => simp only [kop]
  | makeMap t r =>
    simp only [kop]
    cases r with
    | none => rfl
    | some x => simp only; rw [h x (by simp [Op.operands])]
  | makeSlice t l c => simp only [kop]; rw [h l (by simp [Op.operands]), h c (by simp [Op.operands])]
  | slice t x lo hi mx =>
    simp only [kop]
    rw [h x (by simp [Op.operands]), omap_congr (f := v) (g := v') (l := lo.toList) (fun y hy => h y (by simp only [Option.mem_toList] at hy; subst hy; simp [Op.operands])), omap_congr (f := v) (g := v') (l := hi.toList) (fun y hy => h y (by simp only [Option.mem_toList] at hy; subst hy; simp [Op.operands])), omap_congr (f := v) (g := v') (l := mx.toList) (fun y hy => h y (by simp only [Option.mem_toList] at hy; subst hy; simp [Op.operands]))]
  | fieldAddr t x f => simp only [kop]; rw [h x (by simp [Op.operands])]
  | field t x f => simp only [kop]; rw [h x (by simp [Op.operands])]
  | indexAddr t x i => simp only [kop]; rw [h x (by simp [Op.operands]), h i (by simp [Op.operands])]
  | index t x i => simp only [kop]; rw [h x (by simp [Op.operands]), h i (by simp [Op.operands])]
  | lookup t x k ok => simp only [kop]; rw [h x (by simp [Op.operands]), h k (by simp [Op.operands])]
  | mapUpdate t m k x => simp only [kop]; rw [h m (by simp [Op.operands]), h k (by simp [Op.operands]), h x (by simp [Op.operands])]
  | range t x => simp only [kop]; rw [h x (by simp [Op.operands])]
  | entry x => simp only [kop]; rw [h x (by simp [Op.operands])]
  | extract x i => simp only [kop]; rw [h x (by simp [Op.operands])]
  | call c =>
    obtain ⟨callee, args, argTypes⟩ := c
    cases callee with
    | builtin b =>
      simp only [kop]
      rw [omap_congr (f := v) (g := v') (l := args.toList) (fun x hx => h x (by simp only [Op.operands, Call.operands]; exact Array.mem_append.2 (.inr (Array.mem_toList_iff.1 hx))))]
    | _ => simp only [kop]
  | _ => simp only [kop]

theorem kbuiltin_quiet {self : Nat} {b : Builtin} {ts : List TypeId} {xs : List KV} {r : KV} {hp' : T KO} (hb : b = .len ∨ b = .cap ∨ b = .min ∨ b = .max) (h : kbuiltin P F self hp b ts xs = some (r, hp')) : hp' = hp := by
  unfold kbuiltin at h
  split at h
  · split at h <;> first | (cases h; rfl) | (cases h; done) | (split at h <;> first | (cases h; rfl) | (cases h; done))
  · split at h <;> first | (cases h; rfl) | (cases h; done)
  · rcases hb with hb | hb | hb | hb <;> cases hb
  · rcases hb with hb | hb | hb | hb <;> cases hb
  · rcases hb with hb | hb | hb | hb <;> cases hb
  · rcases hb with hb | hb | hb | hb <;> cases hb
  · rename_i x l
    cases hm : kfoldMM false x l with
    | none => rw [hm] at h; cases h
    | some z => rw [hm] at h; cases h; rfl
  · rename_i x l
    cases hm : kfoldMM true x l with
    | none => rw [hm] at h; cases h
    | some z => rw [hm] at h; cases h; rfl
  · cases h

theorem kquiet_hp {self : Nat} {o : Oper} {v : Operand → Option KV} {r : KV} {hp' : T KO} (hq : kquiet o = true) (h : kop P F self hp v o = some (r, hp')) : hp' = hp := by
  obtain ⟨dst, op, type, pos, after, guard⟩ := o
  cases op <;> simp only [kquiet, Bool.false_eq_true] at hq <;> simp only [kop] at h
  case call c =>
    obtain ⟨callee, args, argTypes⟩ := c
    cases callee with
    | builtin b =>
      simp only at hq h
      split at h
      · rename_i xs hxs
        refine kbuiltin_quiet ?_ h
        cases b <;> simp at hq ⊢
      · cases h
    | _ => simp at hq
  all_goals first
    | exact (pair_spec h).2
    | (split at h <;> first | exact (pair_spec h).2 | (cases h; rfl) | (cases h; done) | (obtain ⟨_, h2⟩ := bifS h; cases h2; rfl))
    | (rename_i f a b; cases f <;> simp only at h <;> first | (cases h; done) | (split at h <;> first | (cases h; rfl) | (cases h; done)))
end Go.KX
