/-
  The executor: regions in every order, code, calls, ranges over functions. Several outcomes where the program may go several ways.
-/
import Derived.Test.YtcdofkflbnpjjaaDoorK1
import Derived.OrdersIn
set_option linter.unusedVariables false
namespace Go.KX
noncomputable section

/-- how a piece of code is left -/
inductive Ex where
  | normal
  | exit (id : Nat)
  | ret
  deriving Inhabited, DecidableEq

structure Res where
  ex : Ex
  v : KV
  s : KS
  deriving Inhabited

inductive Task where
  /-- code, in a frame of n temporaries, in a round or not -/
  | code (rd : Option Nat) (n : Nat) (c : Code) (s : KS)
  | call (f : FuncId) (args : List KV) (hp : T KO) (nx : Nat)
  | round (l : Nat) (args : List KV) (hp : T KO) (nx : Nat)

def bindL {α β : Type} (f : α → Option (List β)) : List α → Option (List β)
  | [] => some []
  | a :: l => match f a with
    | some bs => match bindL f l with
      | some cs => some (bs ++ cs)
      | none => none
    | none => none

abbrev Run := Task → Option (List Res)

def KS.putD (s : KS) (d : Option Nat) (v : KV) : KS :=
  match d with
  | some t => { s with tm := s.tm.set t v }
  | none => s

def setAll (n : Nat) : List Nat → List KV → T KV → T KV
  | p :: ps, a :: as, tm => setAll n ps as (bif Nat.blt p n then tm.set p a else tm)
  | _, _, tm => tm

def ofList : List KV → Nat → T KV → T KV
  | [], _, t => t
  | v :: vs, i, t => ofList vs (i + 1) (t.set i v)

/-- a call of a function value: the value that comes back -/
def kcall (E : Env) (ih : Run) (f : KV) (args : List KV) (s : KS) : Option (List (KV × KS)) :=
  match f with
  | .fn g first caps => match E.X g with
    | some e => match e (first ++ args ++ caps) with
      | some v => some [(v, s)]
      | none => none
    | none => match ih (.call g (first ++ args ++ caps) s.hp s.nx) with
      | some rs => some (rs.map fun r => (r.v, { s with hp := r.s.hp, nx := r.s.nx }))
      | none => none
  | .yld l => match ih (.round l args s.hp s.nx) with
    | some rs => some (rs.map fun r => (r.v, { s with hp := r.s.hp, nx := r.s.nx }))
    | none => none
  | _ => none

/-- a call, or a step of a range -/
def kvalL (E : Env) (ih : Run) (self : Nat) (o : Oper) (s : KS) : Option (List (KV × KS)) :=
  match o.op with
  | .call c => match c.callee with
    | .value f => match kopd s f, omap (kopd s) c.args.toList with
      | some f, some xs => kcall E ih f xs s
      | _, _ => none
    | _ => (kopF E.P E.F self s.hp (kopd s) o).map fun r => [(r.1, { s with hp := r.2 })]
  | .next x false => match kopd s x with
    | some x => (knext s.hp x).map fun rs => rs.map fun r => (r.1, { s with hp := r.2 })
    | none => none
  | .next x true => match kopd s x with
    | some x => (knextS s.hp x).map fun r => [(r.1, { s with hp := r.2 })]
    | none => none
  | _ => (kopF E.P E.F self s.hp (kopd s) o).map fun r => [(r.1, { s with hp := r.2 })]
/-- an operation: what it may give -/
def kvalS (E : Env) (ih : Run) (self : Nat) (o : Oper) (s : KS) : Option (List (KV × KS)) :=
  match o.op with
  | .call c => match c.callee with
    | .value f => match kopd s f, omap (kopd s) c.args.toList with
      | some f, some xs => kcall E ih f xs s
      | _, _ => none
    | _ => (kop E.P E.F self s.hp (kopd s) o).map fun r => [(r.1, { s with hp := r.2 })]
  | .next x false => match kopd s x with
    | some x => (knext s.hp x).map fun rs => rs.map fun r => (r.1, { s with hp := r.2 })
    | none => none
  | .next x true => match kopd s x with
    | some x => (knextS s.hp x).map fun r => [(r.1, { s with hp := r.2 })]
    | none => none
  | _ => (kop E.P E.F self s.hp (kopd s) o).map fun r => [(r.1, { s with hp := r.2 })]
def kval (E : Env) (ih : Run) (self : Nat) (o : Oper) (s : KS) : Option (List (KV × KS)) :=
  Bool.casesOn (motive := fun _ => Option (List (KV × KS))) (kloud o.op) ((kopF E.P E.F self s.hp (kopd s) o).map fun r => [(r.1, { s with hp := r.2 })]) (kvalL E ih self o s)
theorem kval_eq : @kval = @kvalS := by
  funext E ih self o s
  unfold kval kvalS kvalL
  rw [kopF_eq]
  obtain ⟨dst, op, type, pos, after, guard⟩ := o
  cases op <;> rfl

/-- is an operation carried out? -/
def kwanted (ops : Array Oper) (s : KS) (o : Oper) : Bool :=
  match o.guard with
  | none => true
  | some (j, want) => match (ops[j]?).bind (·.dst) with
    | some t => match s.tm.get t with
      | some (.bool b) => b == want
      | _ => false
    | none => false

def dstOk (n : Nat) (d : Option Nat) : Bool := match d with | some t => Nat.blt t n | none => true

def kstep (E : Env) (ih : Run) (n base : Nat) (ops : Array Oper) (i : Nat) (s : KS) : Option (List KS) :=
  match ops[i]? with
  | none => some [s]
  | some o => bif dstOk n o.dst then
      bif kwanted ops s o then
        match kval E ih (base + i) o s with
        | some rs => some (rs.map fun r => r.2.putD o.dst r.1)
        | none => none
      else some [s.putD o.dst (.tup [])]
    else none

/-- operations in the order of the text -/
def kops (E : Env) (ih : Run) (n base : Nat) (ops : Array Oper) : List Nat → KS → Option (List KS)
  | [], s => some [s]
  | i :: is, s => match kstep E ih n base ops i s with
    | some ss => bindL (kops E ih n base ops is) ss
    | none => none

abbrev ready (ops : Array Oper) (listed : Array Bool) : List Nat := Region.ready .any ops listed

/-- the temporaries that an operation looks at -/
def tmpsOf (ops : Array Oper) (o : Oper) : List Nat :=
  o.op.operands.toList.filterMap (fun x => match x with | .tmp t => some t | _ => none) ++ (match o.guard with | some (j, _) => ((ops[j]?).bind (·.dst)).toList | none => [])
def hasPred (o : Oper) (i : Nat) : Bool := o.after.any fun e => Nat.beq e.on i && Region.binds .any e

/-- an operation that may be put off: it leaves the blocks alone, its result is its own, whoever reads it waits for it -/
def putOff (ops : Array Oper) (i : Nat) : Bool :=
  match ops[i]? with
  | some o => match o.dst with
    | some d => kquiet o && (!((tmpsOf ops o).contains d) && ops.toList.zipIdx.all fun p => Nat.beq p.2 i || (!(p.1.dst == some d) && (!((tmpsOf ops p.1).contains d) || hasPred p.1 i)))
    | none => false
  | none => false

/-- all that may be put off and is ready, one after the other -/
def keager (E : Env) (ih : Run) (n base : Nat) (ops : Array Oper) (q : Nat → Bool) : Nat → Array Bool → KS → Option (Array Bool × KS)
  | 0, listed, s => match (ready ops listed).filter q with
    | [] => some (listed, s)
    | _ => none
  | f + 1, listed, s => match (ready ops listed).filter q with
    | [] => some (listed, s)
    | i :: _ => match kstep E ih n base ops i s with
      | some [s'] => keager E ih n base ops q f (listed.setIfInBounds i true) s'
      | _ => none

/-- does an operation that was put forward give the same now? -/
def again1 (E : Env) (base : Nat) (ops : Array Oper) (i : Nat) (s : KS) : Bool :=
  match ops[i]? with
  | some o => match o.dst with
    | some d => match s.tm.get d with
      | some u => bif kwanted ops s o then (match kopF E.P E.F (base + i) s.hp (kopd s) o with | some (v, _) => KV.eqF v u | none => false) else KV.eqF (.tup []) u
      | none => false
    | none => false
  | none => false
def again1S (E : Env) (base : Nat) (ops : Array Oper) (i : Nat) (s : KS) : Bool :=
  match ops[i]? with
  | some o => match o.dst with
    | some d => match s.tm.get d with
      | some u => bif kwanted ops s o then (match kop E.P E.F (base + i) s.hp (kopd s) o with | some (v, _) => KV.eqb v u | none => false) else KV.eqb (.tup []) u
      | none => false
    | none => false
  | none => false
theorem again1_eq : @again1 = @again1S := by
  funext E base ops i s
  unfold again1 again1S
  rw [kopF_eq, KV.eqF_eq]
/-- .. all of them, but for those that stand before c anyway -/
def kagain (E : Env) (base : Nat) (ops : Array Oper) (q : Nat → Bool) (listed : Array Bool) (c : Oper) (s : KS) : Bool :=
  (List.range ops.size).all fun i => !(listed.getD i true && q i) || (hasPred c i || again1 E base ops i s)

def merge : List KS → List KS
  | [] => []
  | s :: ss => bif (merge ss).any (KS.eqF s) then merge ss else s :: merge ss

/-- one of those that may come next, and what comes behind it -/
def kbr (E : Env) (ih : Run) (n base : Nat) (ops : Array Oper) (q : Nat → Bool) (rest : Array Bool → KS → Option (List KS)) (listed : Array Bool) (s : KS) (i : Nat) : Option (List KS) :=
  match kstep E ih n base ops i s with
  | some ss => bif ss.all (kagain E base ops q listed (ops.getD i default)) then bindL (rest (listed.setIfInBounds i true)) ss else none
  | none => none

/-- operations in every order that the language allows -/
def kexpl (E : Env) (ih : Run) (n base : Nat) (ops : Array Oper) (q : Nat → Bool) : Nat → Array Bool → KS → Option (List KS)
  | 0, _, _ => none
  | f + 1, listed, s => match keager E ih n base ops q ops.size listed s with
    | none => none
    | some (listed, s) => match ready ops listed with
      | [] => some [s]
      | rs => (bindL (kbr E ih n base ops q (kexpl E ih n base ops q f) listed s) rs).map merge

def kregion (E : Env) (ih : Run) (n : Nat) (ops : Array Oper) (draw : Bool) (s : KS) : Option (List KS) :=
  if draw then kexpl E ih n s.nx ops (putOff ops) (ops.size + 1) (Array.replicate ops.size false) { s with nx := s.nx + ops.size }
  else kops E ih n s.nx ops (List.range ops.size) { s with nx := s.nx + ops.size }

def kresult (P : Program) (s : KS) : List ResultVar → Option (List KV)
  | [] => some []
  | .tmp t :: r => match kresult P s r with
    | some vs => some ((s.tm.get t).getD (.tup []) :: vs)
    | none => none
  | .cell a t :: r => match kload P t s.hp ((s.tm.get a).getD (.tup [])), kresult P s r with
    | some v, some vs => some (v :: vs)
    | _, _ => none

def one (vs : List KV) : KV := match vs with | [v] => v | vs => .tup vs

/-- on the way out: the blocks for deferred calls are shut -/
def kshut : List Nat → T KO → Option (T KO)
  | [], hp => some hp
  | r :: rs, hp => match hp.get r with
    | some (.defd true) => kshut rs (hp.set r (.defd false))
    | _ => none

/-- a round has ended -/
def kroundEnd (l : Nat) (r : Res) : Option (List Res) :=
  match r.ex, r.s.df, r.s.hp.get l with
  | .normal, [], some (.loop _ tm n ps a b d) => some [⟨.ret, .bool true, { r.s with hp := r.s.hp.set l (.loop .ready tm n ps a b d) }⟩]
  | _, _, _ => none
/-- the assignments are made: the round's body -/
def kround (ih : Run) (l n : Nat) (body : Code) (r : Res) : Option (List Res) :=
  match r.ex, r.s.df, r.s.hp.get l with
  | .normal, [], some (.loop .ready tm m ps a b d) => match ih (.code (some l) n body { r.s with hp := r.s.hp.set l (.loop .busy tm m ps a b d) }) with
    | some rs => bindL (kroundEnd l) rs
    | none => none
  | _, _, _ => none
def kdf (rd : Option Nat) (s : KS) : List Nat := match rd with | none => s.nx :: s.df | some _ => s.df
def khp (rd : Option Nat) (s : KS) : T KO := match rd with | none => s.hp.set s.nx (.defd true) | some _ => s.hp
def kblk (id : Nat) (r : Res) : Res := match r.ex with | .exit i => if i = id then ⟨.normal, .tup [], r.s⟩ else r | _ => r
/-- the function that is ranged over has returned -/
def krangeEnd (rd : Option Nat) (s : KS) (r : Res) : Option (List Res) :=
  match r.s.hp.get (s.nx + 1) with
  | some (.loop .ready _ _ _ _ _ _) => some [⟨.normal, .tup [], { s with hp := r.s.hp.set (s.nx + 1) .dead, nx := r.s.nx, df := kdf rd s }⟩]
  | _ => none
/-- where the rounds' deferred calls go -/
def kdefers (rd : Option Nat) (s : KS) : Option Nat :=
  match rd with
  | none => some s.nx
  | some l => match s.hp.get l with
    | some (.loop _ _ _ _ _ _ d) => some d
    | _ => none

/-! ## Outcomes of a call that come to the same -/
mutual
def refsV : KV → List Nat
  | .ptr b _ => [b]
  | .sl b _ _ _ => [b]
  | .slo b _ _ _ _ => [b]
  | .map b => [b]
  | .yld b => [b]
  | .fn _ xs ys => refsL xs ++ refsL ys
  | .agg xs => refsL xs
  | .tup xs => refsL xs
  | _ => []
def refsL : List KV → List Nat
  | [] => []
  | x :: xs => refsV x ++ refsL xs
end
def refsE : List KE → List Nat
  | [] => []
  | e :: es => refsV e.key ++ (refsV e.val ++ refsE es)
def refsO (o : KO) : List Nat := match o with | .row cs => refsL cs | .mp es _ => refsE es | _ => []
/-- the blocks from lo on that can be reached -/
def reach (hp : T KO) (lo : Nat) : Nat → List Nat → List Nat → List Nat
  | 0, _, seen => seen
  | _, [], seen => seen
  | f + 1, b :: bs, seen => bif Nat.blt b lo || seen.contains b then reach hp lo f bs seen else reach hp lo f ((match hp.get b with | some o => refsO o | none => []) ++ bs) (b :: seen)
/-- what no one keeps is given up -/
def sweep (keep : List Nat) : Nat → Nat → T KO → T KO
  | 0, _, hp => hp
  | n + 1, b, hp => sweep keep n (b + 1) (bif keep.contains b then hp else hp.set b .dead)
def maxNx : List Res → Nat
  | [] => 0
  | r :: rs => Nat.max r.s.nx (maxNx rs)
def clean (lo hi : Nat) (r : Res) : Res := ⟨r.ex, r.v, ⟨.e, sweep (reach r.s.hp lo 100000 (refsV r.v) []) (hi - lo) lo r.s.hp, hi, []⟩⟩
def mergeR : List Res → List Res
  | [] => []
  | r :: rs => bif (mergeR rs).any (fun q => KV.eqF r.v q.v && KS.eqF r.s q.s) then mergeR rs else r :: mergeR rs
def kmg (lo : Nat) (rs : List Res) : List Res :=
  match rs with
  | _ :: _ :: _ => mergeR (rs.map (clean lo (maxNx rs)))
  | rs => rs

def body (E : Env) (ih : Run) : Task → Option (List Res)
  | .code rd n c s => match c with
    | .skip => some [⟨.normal, .tup [], s⟩]
    | .label _ => some [⟨.normal, .tup [], s⟩]
    | .region _ ops draw => (kregion E ih n ops draw s).map fun ss => ss.map fun s => ⟨.normal, .tup [], s⟩
    | .seq a b => match ih (.code rd n a s) with
      | some rs => bindL (fun r => match r.ex with | .normal => ih (.code rd n b r.s) | e => some [r]) rs
      | none => none
    | .cond x a b => match kopd s x with
      | some (.bool t) => ih (.code rd n (if t then a else b) s)
      | _ => none
    | .block id a => match ih (.code rd n a s) with
      | some rs => some (rs.map (kblk id))
      | none => none
    | .loop a => match ih (.code rd n a s) with
      | some rs => bindL (fun r => match r.ex with | .normal => ih (.code rd n (.loop a) r.s) | e => some [r]) rs
      | none => none
    | .exit id => some [⟨.exit id, .tup [], s⟩]
    | .ret => some [⟨.ret, .tup [], s⟩]
    | .rangeFunc f ps assign b =>
      -- the record lies at nx + 1, the block for deferred calls at nx
      match kdefers rd s, kopd s f with
      | some d, some (.fn g first caps) =>
        bif fresh s.hp s.nx && fresh s.hp (s.nx + 1) then
          match ih (.call g (first ++ [.yld (s.nx + 1)] ++ caps) ((khp rd s).set (s.nx + 1) (.loop .ready s.tm n ps.toList assign b d)) (s.nx + 2)) with
          | some rs => bindL (krangeEnd rd s) rs
          | none => none
        else none
      | _, _ => none
    | _ => none
  | .call f args hp nx => match E.Y f with
    | some e => match e args with
      | some v => some [⟨.ret, v, ⟨.e, hp, nx, []⟩⟩]
      | none => none
    | none => match E.P.funcs[f]? with
    | some fn => match fn.body with
      | some c => bif !(fn.name == "runtime.NumGoroutine") then
          match ih (.code none (max fn.ntmps args.length) c ⟨ofList args 0 .e, hp, nx, []⟩) with
          | some rs => (bindL (fun r => match r.ex with
            | .exit _ => none
            | _ => match kshut r.s.df r.s.hp with
              | some hp' => match kresult E.P { r.s with hp := hp' } fn.results.toList with
                | some vs => some [⟨.ret, one vs, { r.s with hp := hp' }⟩]
                | none => none
              | none => none) rs).map (kmg nx)
          | none => none
        else none
      | none => none
    | none => none
  | .round l args hp nx => match hp.get l with
    | some (.loop .ready tm n ps assign b d) =>
      bif Nat.beq ps.length args.length then
        match ih (.code (some l) n assign ⟨setAll n ps args tm, hp, nx, []⟩) with
        | some rs => bindL (kround ih l n b) rs
        | none => none
      else none
    | _ => none

def run (E : Env) (fuel : Nat) : Run := Nat.rec (fun _ => none) (fun _ ih => body E ih) fuel
end
end Go.KX
