/-
  Maps with keys of strings or numbers.
-/
import Derived.Test.YtcdofkflbnpjjaaAE10
import Derived.MapKept
set_option linter.unusedVariables false
namespace Go.AE
open Go.RowKit (Below)
open Go.MapKept
variable {P : Program} {w0 : Base} {w : World} {N : Nat} {σ : Nat → RefI} {s : S} {tms : Array Value} {ρ : Operand → Value} {al : Nat → Prop} {Γ : List Fn}

def KeyOk (kk : Kd) (d : TypeDesc) : Prop := (kk = .str ∧ d = .string) ∨ ∃ q, kk = .int q ∧ d = .int q

theorem mapE_spec {t e : TypeId} {kk : Kd} {E : TyI} (h : mapE P t = some (kk, e, E)) : ∃ k d, P.underlying t = some (.map k e) ∧ P.underlying k = some d ∧ tyI P e = some E ∧ KeyOk kk d := by
  unfold mapE at h
  split at h
  · rename_i k e' hu
    split at h
    · rename_i hk hE
      simp only [Option.some.injEq, Prod.mk.injEq] at h
      obtain ⟨rfl, rfl, rfl⟩ := h
      exact ⟨k, _, hu, hk, hE, .inl ⟨rfl, rfl⟩⟩
    · rename_i q _ hk hE
      simp only [Option.some.injEq, Prod.mk.injEq] at h
      obtain ⟨rfl, rfl, rfl⟩ := h
      exact ⟨k, _, hu, hk, hE, .inr ⟨q, rfl, rfl⟩⟩
    · cases h
  · cases h

theorem beq_bytes (x y : List UInt8) : ((⟨x.toArray⟩ : ByteArray) == ⟨y.toArray⟩) = (x == y) := by
  rw [Bool.eq_iff_iff, bytes_beq]
  simp

theorem key_same {kk : Kd} {d : TypeDesc} {a b : Value} {x y : C} (hk : KeyOk kk d) (ha : RepC P w al kk a x) (hb : RepC P w al kk b y) :
    IsKey d a ∧ Instr.sameNow d a b = some (keyEq kk x y) ∧ (keyEq kk x y = true → b = a) := by
  rcases hk with ⟨rfl, rfl⟩ | ⟨q, rfl, rfl⟩
  · cases ha with | str _ h1 =>
    cases hb with | str _ h2 =>
    refine ⟨trivial, by simp only [Instr.sameNow, keyEq, beq_bytes], fun h => ?_⟩
    simp only [keyEq, beq_iff_eq] at h
    rw [h]
  · cases ha with | int _ _ h1 =>
    cases hb with | int _ _ h2 =>
    refine ⟨rfl, by simp only [Instr.sameNow, keyEq, if_true], fun h => ?_⟩
    simp only [keyEq, beq_iff_eq] at h
    rw [h]

theorem find_rel {kk : Kd} {d : TypeDesc} {vp : Bool × List Kd} {kv : Value} {k : C} (hk : KeyOk kk d) (hkv : RepC P w al kk kv k) :
    ∀ {es : List MapEntry} {m : List (C × List C)} (i : Nat), MRel P w al kk vp es m →
      (Instr.findNow d kv es i = some none ∧ mget kk k m = none ∧ (∀ c, mset kk k c m = m ++ [(k, c)]) ∧ mdel kk k m = m) ∨
      ∃ j e c0, Instr.findNow d kv es i = some (some (i + j, e.val)) ∧ es[j]? = some e ∧ e.key = kv ∧ ArgRel P w al vp e.val c0 ∧ mget kk k m = some c0 ∧
        (∀ c, mset kk k c m = m.set j (k, c)) ∧ mdel kk k m = m.eraseIdx j
  | [], [], i, h => .inl ⟨rfl, rfl, fun _ => rfl, rfl⟩
  | [], _ :: _, i, h => h.elim
  | _ :: _, [], i, h => h.elim
  | e :: es, x :: m, i, h => by
    obtain ⟨h1, h2, h3⟩ := key_same hk hkv h.1
    cases hq : keyEq kk k x.1 with
    | true =>
      rw [hq] at h2 h3
      exact .inr ⟨0, e, x.2, by simp [Instr.findNow, h2], rfl, h3 rfl, h.2.1, by simp [mget, hq], fun c => by simp [mset, hq], by simp [mdel, hq]⟩
    | false =>
      rw [hq] at h2
      rcases find_rel hk hkv (i + 1) h.2.2 with ⟨a1, a2, a3, a4⟩ | ⟨j, e', c0, a1, a2, a3, a4, a5, a6, a7⟩
      · exact .inl ⟨by simp [Instr.findNow, h2, a1], by simp [mget, hq, a2], fun c => by simp [mset, hq, a3], by simp [mdel, hq, a4]⟩
      · exact .inr ⟨j + 1, e', c0, by simp [Instr.findNow, h2, a1]; omega, by simpa using a2, a3, a4, by simp [mget, hq, a5], fun c => by simp [mset, hq, a6], by simp [mdel, hq, a7]⟩

theorem MRel.append {kk : Kd} {vp : Bool × List Kd} {e : MapEntry} {x : C × List C} (h1 : RepC P w al kk e.key x.1) (h2 : ArgRel P w al vp e.val x.2) :
    ∀ {es : List MapEntry} {m : List (C × List C)}, MRel P w al kk vp es m → MRel P w al kk vp (es ++ [e]) (m ++ [x])
  | [], [], _ => ⟨h1, h2, trivial⟩
  | [], _ :: _, h => h.elim
  | _ :: _, [], h => h.elim
  | _ :: _, _ :: _, h => ⟨h.1, h.2.1, MRel.append h1 h2 h.2.2⟩

theorem MRel.set {kk : Kd} {vp : Bool × List Kd} {f : MapEntry → MapEntry} {x : C × List C} (h1 : ∀ e, RepC P w al kk (f e).key x.1) (h2 : ∀ e, ArgRel P w al vp (f e).val x.2) :
    ∀ {es : List MapEntry} {m : List (C × List C)} (j : Nat), MRel P w al kk vp es m → MRel P w al kk vp (es.modify j f) (m.set j x)
  | [], [], j, _ => by cases j <;> trivial
  | [], _ :: _, j, h => h.elim
  | _ :: _, [], j, h => h.elim
  | e :: _, _ :: _, 0, h => ⟨h1 e, h2 e, h.2.2⟩
  | _ :: _, _ :: _, j + 1, h => ⟨h.1, h.2.1, MRel.set h1 h2 j h.2.2⟩

theorem MRel.erase {kk : Kd} {vp : Bool × List Kd} : ∀ {es : List MapEntry} {m : List (C × List C)} (j : Nat), MRel P w al kk vp es m → MRel P w al kk vp (es.eraseIdx j) (m.eraseIdx j)
  | [], [], j, _ => by cases j <;> trivial
  | [], _ :: _, j, h => h.elim
  | _ :: _, [], j, h => h.elim
  | e :: _, _ :: _, 0, h => h.2.2
  | _ :: _, _ :: _, j + 1, h => ⟨h.1, h.2.1, MRel.erase j h.2.2⟩

/-- data under its parameter's form -/
theorem argRel_pack {p : Bool × List Kd} {v : Value} {c : List C} (h : ArgRel P w al p v c) : ARel P w al σ v (pack p.1 (ppVals p.2 c 0)) := by
  unfold ArgRel at h
  split at h
  · rename_i hp
    obtain ⟨us, rfl, h1, h2, h3⟩ := h
    simp only [pack, hp, if_true]
    refine .agg us _ (by rw [ppVals_length]; exact h1) (fun i hi => ?_)
    rw [ppVals_length] at hi
    rw [ppVals_getD _ _ _ _ hi, Nat.zero_add]
    exact .c _ _ _ (h3 i hi).nrm
  · rename_i hp
    obtain ⟨h1, h2, h3⟩ := h
    simp only [pack, hp, Bool.false_eq_true, if_false]
    match hks : p.2, h1 with
    | [k0], _ =>
      rw [hks] at h3
      exact .c _ _ _ (RepC.nrm (k := k0) h3)

theorem zero_arg {e : TypeId} {E : TyI} (hE : tyI P e = some E) : ∃ z, (zeroValue e).run P w = .ok z w ∧ ArgRel P w al (E.agg, E.kinds) z (zeroRow E) := by
  obtain ⟨S⟩ := tyI_spec hE
  obtain ⟨z1, z2⟩ := zerosC_rel (P := P) (w := w) (al := al) S.zfits
  refine ⟨S.z, by simp only [zeroValue, Sem.run_bind, run_typeInfo w S.info, Result.andThen_ok, S.zero, Sem.run_pure], ?_⟩
  have hz := S.zagg
  rw [← S.agg] at hz
  have hlen : (zeroRow E).length = E.kinds.length := by simp [zeroRow]
  cases hzv : S.z with
  | agg cs =>
    rw [hzv] at hz z1 z2
    simp only [isAggV] at hz
    simp only [ArgRel, hz]
    exact ⟨cs.toList, rfl, z1, hlen, z2⟩
  | _ =>
    rw [hzv] at hz z1 z2
    simp only [isAggV] at hz
    simp only [ArgRel, hz]
    have h1 : E.kinds.length = 1 := by simpa [Value.cells] using z1.symm
    refine ⟨h1, by rw [hlen, h1], ?_⟩
    simpa [Value.cells, zeroRow] using z2 0 (by omega)

theorem mref_inv {v : Value} {id b : Nat} (h : ARel P w al σ v (.mref id)) (hs : σ id = .mp b) : v = .map (some b) := by
  cases h with
  | mref _ b h => rw [hs] at h; cases h; rfl
  | mrefGone v id h => rw [hs] at h; cases h
  | itr id r b h => rw [hs] at h; cases h

theorem makeMap_sound {t : TypeId} {id : Nat} {kk : Kd} {vp : Bool × List Kd} (h : RelL P w0 N σ s tms w) (hd : isDead (s.hp id) = true) :
    ∃ v' w', (Instr.makeMap t none).run P w = .ok v' w' ∧ ∃ σ', RelL P w0 N σ' ⟨s.tm, upd s.hp id (.mp kk vp [])⟩ tms w' ∧ ARel P w' (Al w0 w' σ' (upd s.hp id (.mp kk vp []))) σ' v' (.mref id) := by
  refine ⟨.map (some w.heap.size), w.alloc (.map #[] 0), ?_, upd σ id (.mp w.heap.size), ?_, .mref id w.heap.size (by simp [upd])⟩
  · simp [Instr.makeMap, Result.andThen]
  · refine h.alloc (isDead_spec hd) (.map #[] 0) (.mp w.heap.size) _ (by simp [blockOf]; try (intro c hc; exact hc.symm)) (fun hal hheap hs => ?_)
    exact ⟨w.heap.size, #[], 0, by simp [upd], .inl h.below.size, heap_alloc_new w _, ⟨by simp, by simp⟩, trivial⟩

theorem lookup_sound {t : TypeId} {ok : Bool} {x y z : A} {vx vy : Value} (h : RelL P w0 N σ s tms w) (hf : lookupA P t ok s.hp x y = some z)
    (hx : ARel P w (Al w0 w σ s.hp) σ vx x) (hy : ARel P w (Al w0 w σ s.hp) σ vy y) :
    ∃ v, (Instr.lookup t vx vy ok).run P w = .ok v w ∧ ARel P w (Al w0 w σ s.hp) σ v z := by
  unfold lookupA at hf
  split at hf
  · rename_i kk e E id ky k hm
    obtain ⟨kt, d, hu, hkd, hE, hko⟩ := mapE_spec hm
    split at hf
    · rename_i hkk; subst hkk
      split at hf
      · rename_i kk' vp m hb
        split at hf
        · rename_i hk'; subst hk'
          split at hf
          · rename_i hvp; subst hvp
            simp only [Option.some.injEq] at hf
            have hB := h.blks id
            rw [hb] at hB
            obtain ⟨b, es, clock, hσ, hBn, hh, hok, hmr⟩ := hB
            obtain rfl := mref_inv hx hσ
            have hkv := hy.c_inv
            obtain ⟨hik, _, _⟩ := key_same hko hkv hkv
            obtain ⟨zv, hz, hza⟩ := zero_arg (w := w) (al := Al w0 w σ s.hp) hE
            rcases find_rel hko hkv 0 hmr with ⟨a1, a2, _, _⟩ | ⟨j, e', c0, a1, a2, a3, a4, a5, _, _⟩
            · have hrun : (Instr.lookup t (.map (some b)) vy ok).run P w = .ok (if ok then .tuple #[zv, .bool false] else zv) w := by
                simp [Instr.lookup, run_underlying hu, MapKept.run_getObj_map hh, MapKept.run_checkKey hkd hik, MapKept.run_findKey hkd a1, hz, Result.andThen]
              refine ⟨_, hrun, ?_⟩
              rw [a2] at hf
              subst hf
              cases ok with
              | false => exact argRel_pack hza
              | true =>
                refine .tup [zv, .bool false] _ rfl (fun i hi => ?_)
                match i, hi with
                | 0, _ => exact argRel_pack hza
                | 1, _ => exact ARel.mk_bool _
            · have hrun : (Instr.lookup t (.map (some b)) vy ok).run P w = .ok (if ok then .tuple #[e'.val, .bool true] else e'.val) w := by
                simp [Instr.lookup, run_underlying hu, MapKept.run_getObj_map hh, MapKept.run_checkKey hkd hik, MapKept.run_findKey hkd a1, Result.andThen]
              refine ⟨_, hrun, ?_⟩
              rw [a5] at hf
              subst hf
              cases ok with
              | false => exact argRel_pack a4
              | true =>
                refine .tup [e'.val, .bool true] _ rfl (fun i hi => ?_)
                match i, hi with
                | 0, _ => exact argRel_pack a4
                | 1, _ => exact ARel.mk_bool _
          · cases hf
        · cases hf
      · cases hf
    · cases hf
  · cases hf

theorem MapOk.push {es : Array MapEntry} {clock : Nat} (h : MapOk es clock) (k v : Value) : MapOk (es.push { key := k, val := v, born := clock }) (clock + 1) := by
  refine ⟨fun x hx => ?_, ?_⟩
  · simp only [Array.toList_push, List.mem_append, List.mem_singleton] at hx
    rcases hx with hx | rfl
    · have := h.1 x hx; omega
    · simp
  · simp only [Array.toList_push, List.map_append, List.map_cons, List.map_nil]
    refine List.nodup_append.2 ⟨h.2, by simp, fun a ha b hb => ?_⟩
    simp only [List.mem_singleton] at hb
    obtain ⟨x, hx, rfl⟩ := List.mem_map.1 ha
    have := h.1 x hx
    omega
theorem MapOk.modify {es : Array MapEntry} {clock : Nat} (h : MapOk es clock) (j : Nat) (k v : Value) : MapOk (es.modify j fun e => { e with key := k, val := v }) clock := by
  have e : (es.modify j fun e => { e with key := k, val := v }).toList.map (·.born) = es.toList.map (·.born) := by
    rw [Array.toList_modify]
    generalize es.toList = l
    induction l generalizing j with
    | nil => simp
    | cons a l ih =>
      cases j with
      | zero => simp
      | succ j => simp [ih]
  refine ⟨fun x hx => ?_, by rw [e]; exact h.2⟩
  have : x.born ∈ es.toList.map (·.born) := by rw [← e]; exact List.mem_map_of_mem hx
  obtain ⟨y, hy, hyx⟩ := List.mem_map.1 this
  have := h.1 y hy
  omega
theorem MapOk.erase {es : Array MapEntry} {clock : Nat} (h : MapOk es clock) (j : Nat) : MapOk (es.eraseIdxIfInBounds j) clock := by
  unfold Array.eraseIdxIfInBounds
  split
  · refine ⟨fun x hx => ?_, ?_⟩
    · simp only [Array.toList_eraseIdx] at hx
      exact h.1 x (List.mem_of_mem_eraseIdx hx)
    · simp only [Array.toList_eraseIdx]
      exact ((List.eraseIdx_sublist es.toList j).map (·.born)).nodup h.2
  · exact h
/-- a map's block is written -/
theorem map_write {id b clock clock' : Nat} {kk : Kd} {vp : Bool × List Kd} {m m' : List (C × List C)} {es es' : Array MapEntry} (h : RelL P w0 N σ s tms w) (hb : s.hp id = .mp kk vp m) (hσ : σ id = .mp b)
    (hh : w.heap[b]? = some (.map es clock)) (hok : MapOk es' clock') (hm : MRel P w (Al w0 w σ s.hp) kk vp es'.toList m') :
    RelL P w0 N σ ⟨s.tm, upd s.hp id (.mp kk vp m')⟩ tms { w with heap := w.heap.setIfInBounds b (.map es' clock') } := by
  obtain ⟨h1, h2⟩ := heap_set (o' := .map es' clock') hh
  refine h.write (b := b) (by simp [hσ, blockOf]) (by simp [hb, isFrz]) _ (by simp) rfl rfl rfl h2 (fun hal hheap => ?_)
  exact ⟨b, es', clock', hσ, (block_lt_of_bref (h.blks id) (b := b) (by simp [hσ, blockOf])).2, h1, hok, hm.mono hheap hal⟩

theorem update_sound {t : TypeId} {x y z : A} {vx vy vz : Value} {hp' : Nat → Blk} (h00 : tyI P 0 = none) (h : RelL P w0 N σ s tms w) (hf : updateA P t s.hp x y z = some hp')
    (hx : ARel P w (Al w0 w σ s.hp) σ vx x) (hy : ARel P w (Al w0 w σ s.hp) σ vy y) (hz : ARel P w (Al w0 w σ s.hp) σ vz z) :
    ∃ w', (Instr.mapUpdate t vx vy vz).run P w = .ok () w' ∧ RelL P w0 N σ ⟨s.tm, hp'⟩ tms w' := by
  unfold updateA at hf
  split at hf
  · rename_i kk e E id ky k hm
    obtain ⟨kt, d, hu, hkd, hE, hko⟩ := mapE_spec hm
    split at hf
    · rename_i hkk; subst hkk
      split at hf
      · rename_i kk' vp m hb
        split at hf
        · rename_i hk'; subst hk'
          split at hf
          · rename_i hvp
            split at hf
            · rename_i c hc
              simp only [Option.some.injEq] at hf; subst hf
              have hids := fitArg_rows hc
              obtain ⟨al1, al2⟩ := al_freeze h _ hids
              have hF := h.freezeAll ((cellsA z).flatMap frozenIds)
              have hvz : ArgRel P w (Al w0 w σ (freezeAll s.hp ((cellsA z).flatMap frozenIds))) vp vz c := fitArg_sound h00 h al1 hc hz al2
              have hkv : RepC P w (Al w0 w σ (freezeAll s.hp ((cellsA z).flatMap frozenIds))) kk' vy k := hy.c_inv.mono (fun _ _ => rfl) al1
              have hnid : freezeAll s.hp ((cellsA z).flatMap frozenIds) id = .mp kk' vp m := by
                rw [freezeAll_at, hb]; split <;> rfl
              have hB := hF.blks id
              rw [show S.hp ⟨s.tm, freezeAll s.hp ((cellsA z).flatMap frozenIds)⟩ id = .mp kk' vp m from hnid] at hB
              obtain ⟨b, es, clock, hσ, hBn, hh, hok, hmr⟩ := hB
              obtain rfl := mref_inv hx hσ
              obtain ⟨hik, _, _⟩ := key_same hko hkv hkv
              rcases find_rel hko hkv 0 hmr with ⟨a1, a2, a3, _⟩ | ⟨j, e', c0, a1, a2, a3, a4, a5, a6, _⟩
              · refine ⟨{ w with heap := w.heap.setIfInBounds b (.map (es.push { key := vy, val := vz, born := clock }) (clock + 1)) }, ?_, ?_⟩
                · simp [Instr.mapUpdate, run_underlying hu, MapKept.run_getObj_map hh, MapKept.run_checkKey hkd hik, MapKept.run_findKey hkd a1, MapKept.run_setObj_map _ hh, Result.andThen]
                · rw [a3]
                  refine map_write hF hnid hσ hh (hok.push vy vz) ?_
                  rw [Array.toList_push]
                  exact MRel.append (e := { key := vy, val := vz, born := clock }) hkv hvz hmr
              · have hj : es[j]? = some e' := by simpa using a2
                refine ⟨{ w with heap := w.heap.setIfInBounds b (.map (es.modify (0 + j) fun e => { e with key := vy, val := vz }) clock) }, ?_, ?_⟩
                · simp [Instr.mapUpdate, run_underlying hu, MapKept.run_getObj_map hh, MapKept.run_checkKey hkd hik, MapKept.run_findKey hkd a1, hj, a3, MapKept.run_keyThatStays hik, MapKept.run_setObj_map _ hh, Result.andThen]
                · rw [a6]
                  refine map_write hF hnid hσ hh (hok.modify _ vy vz) ?_
                  rw [Nat.zero_add, Array.toList_modify]
                  exact MRel.set (f := fun e => { e with key := vy, val := vz }) (fun _ => hkv) (fun _ => hvz) j hmr
            · cases hf
          · cases hf
        · cases hf
      · cases hf
    · cases hf
  · cases hf

theorem delete_sound {t ty : TypeId} {x y : A} {vx vy : Value} {hp' : Nat → Blk} (h : RelL P w0 N σ s tms w) (hf : deleteA P t s.hp x y = some hp')
    (hx : ARel P w (Al w0 w σ s.hp) σ vx x) (hy : ARel P w (Al w0 w σ s.hp) σ vy y) (ats : Array TypeId) (hat : ats[0]? = some t) :
    ∃ w', (Builtin.delete_ ats ty #[vx, vy]).run P w = .ok (.tuple #[]) w' ∧ RelL P w0 N σ ⟨s.tm, hp'⟩ tms w' := by
  unfold deleteA at hf
  split at hf
  · rename_i kk e E id ky k hm
    obtain ⟨kt, d, hu, hkd, hE, hko⟩ := mapE_spec hm
    split at hf
    · rename_i hkk; subst hkk
      split at hf
      · rename_i kk' vp m hb
        split at hf
        · rename_i hk'; subst hk'
          simp only [Option.some.injEq] at hf; subst hf
          have hkv := hy.c_inv
          have hB := h.blks id
          rw [hb] at hB
          obtain ⟨b, es, clock, hσ, hBn, hh, hok, hmr⟩ := hB
          obtain rfl := mref_inv hx hσ
          obtain ⟨hik, _, _⟩ := key_same hko hkv hkv
          rcases find_rel hko hkv 0 hmr with ⟨a1, a2, a3, a4⟩ | ⟨j, e', c0, a1, a2, a3, a4, a5, a6, a7⟩
          · refine ⟨{ w with heap := w.heap.setIfInBounds b (.map es clock) }, ?_, ?_⟩
            · simp [Builtin.delete_, hat, run_underlying hu, MapKept.run_getObj_map hh, MapKept.run_checkKey hkd hik, MapKept.run_findKey hkd a1, MapKept.run_setObj_map _ hh, Result.andThen]
            · rw [a4]; exact map_write h hb hσ hh hok hmr
          · refine ⟨{ w with heap := w.heap.setIfInBounds b (.map (es.eraseIdxIfInBounds (0 + j)) clock) }, ?_, ?_⟩
            · simp [Builtin.delete_, hat, run_underlying hu, MapKept.run_getObj_map hh, MapKept.run_checkKey hkd hik, MapKept.run_findKey hkd a1, MapKept.run_setObj_map _ hh, Result.andThen]
            · rw [a7]
              refine map_write h hb hσ hh (hok.erase _) ?_
              have hj : j < es.size := by
                have := (List.getElem?_eq_some_iff.1 a2).1; simpa using this
              have e1 : (es.eraseIdxIfInBounds (0 + j)).toList = es.toList.eraseIdx j := by
                rw [Nat.zero_add]
                unfold Array.eraseIdxIfInBounds
                rw [dif_pos hj]; simp
              rw [e1]; exact MRel.erase j hmr
        · cases hf
      · cases hf
    · cases hf
  · cases hf

end Go.AE
