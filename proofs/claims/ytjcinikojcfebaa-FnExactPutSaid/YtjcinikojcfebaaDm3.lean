/- The data machine, part 3: states, regions, code. -/
import Derived.Test.YtjcinikojcfebaaDm2
namespace Go.Proofs.Ytjcinikojcfebaa.Dm
open Go

/-- A state: the slots, the variables, the operations whose numbers have been given, the tests that are known. -/
structure DSt where
  t : List DVal
  v : List (Nat × DVar)
  k : List Nat
  kn : List (Nat × Bool)

/-- The state as functions: what is reasoned about. -/
structure FSt where
  t : Nat → DVal
  v : Nat → Option DVar
  k : Nat → Prop

def lookV : List (Nat × DVar) → Nat → Option DVar
  | [], _ => none
  | (k, x) :: r, id => if k = id then some x else lookV r id
def eraseV : List (Nat × DVar) → Nat → List (Nat × DVar)
  | [], _ => []
  | (k, x) :: r, id => if k = id then eraseV r id else (k, x) :: eraseV r id
def setV : List (Nat × DVar) → Nat → DVar → List (Nat × DVar)
  | [], id, y => [(id, y)]
  | (k, x) :: r, id, y => if k = id then (k, y) :: r else (k, x) :: setV r id y
def updV (v : List (Nat × DVar)) : Upd → List (Nat × DVar)
  | [] => v
  | (id, some x) :: r => updV (setV v id x) r
  | (id, none) :: r => updV (eraseV v id) r

def DSt.f (s : DSt) : FSt := { t := fun j => s.t.getD j .dead, v := lookV s.v, k := fun id => id / 64 ∈ s.k }

def evF (t : Nat → DVal) : Operand → DVal
  | .tmp j => t j
  | .const v => ofValue v
  | .func f => .fn f []
  | .global _ => .dead

def varIds (v : Env) (id : Nat) : List Nat :=
  match v id with
  | some x => x.ids
  | none => []
def cl (v : Env) (l : List Nat) : List Nat := l ++ l.flatMap (varIds v)
/-- The variables that an operation may look at. -/
def tids (op : Op) (t : Nat → DVal) (v : Env) : List Nat := cl v (cl v (cl v ((opnds op).flatMap fun x => (evF t x).ids)))
def envR (T : List Nat) (v : Env) : Env := fun id => if T.contains id = true then v id else none

/-- Does it make any? -/
def makes (g : Nat) (u : Upd) : Bool := u.any fun x => x.1 / 64 == g
/-- An operation 'g' names only what it may look at, and what it makes: the numbers from 64 g on. -/
def okId (T : List Nat) (g : Nat) (mk : Bool) (id : Nat) : Bool := T.contains id || (mk && id / 64 == g)
def okUpd (T : List Nat) (g : Nat) (mk : Bool) (x : Nat × Option DVar) : Bool :=
  okId T g mk x.1 && (match x.2 with | some y => y.ids.all (okId T g mk) | none => true)
def okRes (T : List Nat) (g : Nat) (r : Res) : Bool :=
  r.1.ids.all (okId T g (makes g r.2)) && r.2.all (okUpd T g (makes g r.2))
def dstOk (t : List DVal) (dst : Option Nat) : Bool :=
  match dst with
  | some d => decide (d < t.length)
  | none => true

def setT (t : List DVal) (dst : Option Nat) (v : DVal) : List DVal :=
  match dst with
  | some d => t.set d v
  | none => t
def dropK (kn : List (Nat × Bool)) (dst : Option Nat) : List (Nat × Bool) :=
  match dst with
  | some d => kn.filter fun x => x.1 != d
  | none => kn
def findK : List (Nat × Bool) → Nat → Option Bool
  | [], _ => none
  | (j, b) :: r, d => if j = d then some b else findK r d
/-- Is an operand a test that is known? -/
def knOf (kn : List (Nat × Bool)) : Operand → Option Bool
  | .const (.bool b) => some b
  | .tmp d => findK kn d
  | _ => none
/-- A choice by a test that is known. -/
def opK (kn : List (Nat × Bool)) : Op → Op
  | .pick c a b =>
    match knOf kn c with
    | some true => .move a
    | some false => .move b
    | none => .pick c a b
  | op => op
def knNew (kn : List (Nat × Bool)) (dst : Option Nat) : Op → List (Nat × Bool)
  | .move x | .assign x =>
    match dst, knOf kn x with
    | some d, some b => [(d, b)]
    | _, _ => []
  | .unOp .not _ x =>
    match dst, knOf kn x with
    | some d, some b => [(d, !b)]
    | _, _ => []
  | _ => []

/-- What is kept of an operation that was done: for the look whether two may change places. -/
structure Log where
  i : Nat
  g : Nat
  mkd : Bool
  dst : Option Nat
  reads : List Nat
  T : List Nat
  U : List Nat

def tmpsOf : List Operand → List Nat
  | [] => []
  | .tmp j :: r => j :: tmpsOf r
  | _ :: r => tmpsOf r
def guardDst (ops : List Oper) (g : Option (Nat × Bool)) : List Nat :=
  match g with
  | some (j, _) => ((ops[j]?).bind (·.dst)).toList
  | none => []

/-- An operation that is wanted. -/
def stepL (C : Cx) (ops : List Oper) (g : Nat) (i : Nat) (o : Oper) (s : DSt) : Out (DSt × Log) :=
  let op := opK s.kn o.op
  let T := tids op (fun j => s.t.getD j .dead) (lookV s.v)
  (core C op o.type (evF fun j => s.t.getD j .dead) (envR T (lookV s.v)) (g * 64)).bind fun r =>
    if okRes T g r = true ∧ s.k.contains g = false ∧ dstOk s.t o.dst = true then
      .ret ({ t := setT s.t o.dst r.1, v := updV s.v r.2, k := if makes g r.2 = true then g :: s.k else s.k, kn := knNew s.kn o.dst op ++ dropK s.kn o.dst },
        { i, g, mkd := makes g r.2, dst := o.dst, reads := tmpsOf (opnds o.op) ++ guardDst ops o.guard, T, U := r.2.map (·.1) })
    else .fail
def skipL (ops : List Oper) (g : Nat) (i : Nat) (o : Oper) (s : DSt) : Out (DSt × Log) :=
  if dstOk s.t o.dst = true then
    .ret ({ s with t := setT s.t o.dst .undef, kn := dropK s.kn o.dst }, { i, g, mkd := false, dst := o.dst, reads := guardDst ops o.guard, T := [], U := [] })
  else .fail

/-- One operation with its guard. -/
def opL (C : Cx) (ops : List Oper) (g : Nat) (i : Nat) (o : Oper) (s : DSt) : Out (DSt × Log) :=
  match o.guard with
  | none => stepL C ops g i o s
  | some (j, want) =>
    match (ops[j]?).bind (·.dst) with
    | none => .fail
    | some d =>
      match findK s.kn d with
      | some b => if b = want then stepL C ops g i o s else skipL ops g i o s
      | none =>
        match s.t.getD d .dead with
        | .b c => .ite (c == want) (stepL C ops g i o { s with t := s.t.set d (.b want), kn := (d, want) :: s.kn })
            (skipL ops g i o { s with t := s.t.set d (.b !want), kn := (d, !want) :: s.kn })
        | .undef => skipL ops g i o s
        | _ => .fail

def regionL (C : Cx) (ops : List Oper) (base : Nat) : List (Nat × Oper) → DSt → List Log → Out (DSt × List Log)
  | [], s, log => .ret (s, log)
  | (i, o) :: r, s, log => (opL C ops (base + i) i o s).bind fun x => regionL C ops base r x.1 (x.2 :: log)

/-- The operations that are done ahead of each one, as bits. -/
def bits (l : List Nat) (after : List Edge) : Nat :=
  after.foldl (fun s e => if Region.binds .any e then s ||| 2 ^ e.on ||| l.getD e.on 0 else s) 0
def befores : List Oper → List Nat → List Nat
  | [], acc => acc
  | o :: r, acc => befores r (acc ++ [bits acc o.after.toList])
def disj (a b : List Nat) : Bool := a.all fun x => !b.contains x
def indep (a b : Log) : Bool :=
  disj a.dst.toList (b.reads ++ b.dst.toList) && disj b.dst.toList a.reads && disj a.U (b.T ++ b.U) && disj b.U a.T &&
  (!a.mkd || b.T.all fun id => id / 64 != a.g)
/-- May all that no edge orders change places? 'log' has the last one first. -/
def indepAll (B : List Nat) : List Log → Bool
  | [] => true
  | b :: r => r.all (fun a => (B.getD b.i 0).testBit a.i || indep a b) && indepAll B r

/-- No edge points ahead. -/
def backB (n : Nat) : List Oper → Bool
  | [] => true
  | o :: r => o.after.toList.all (fun e => !Region.binds .any e || decide (e.on < n)) && backB (n + 1) r

def region (C : Cx) (id : Nat) (ops : List Oper) (draw : Bool) (s : DSt) : Out DSt :=
  (regionL C ops (id * 256 + 1) (ops.zipIdx.map fun x => (x.2, x.1)) s []).bind fun x =>
    if draw = true ∧ (indepAll (befores ops []) x.2 = false ∨ backB 0 ops = false) then .fail else .ret x.1

inductive Ex where
  | normal
  | ret
  | exit (id : Nat)

def blockEx (id : Nat) (r : Ex × DSt) : Ex × DSt :=
  match r.1 with
  | .exit n => if n = id then (.normal, r.2) else r
  | _ => r

/-! ## Shapes of states -/
inductive Slot where
  | dead
  | deadc
  | b
  | i (k : IntKind)
  | s
  | ro (e : Ty) (tk : Option Nat)
  | srf (id : Nat)
  | vptr (id off : Nat)
  | eptr (id off : Nat)
  | rop (t : Ty) (off : Nat)
  | fn (f : Nat) (ids : List Nat)
inductive VSlot where
  | var (cs : List Slot)
  | arr (e : Ty)

def slotC : Slot → Type → Type
  | .b, T => Bool × T
  | .i _, T => Int × T
  | .s, T => List UInt8 × T
  | .ro e _, T => List e.D × T
  | .eptr _ _, T => Nat × T
  | .rop t _, T => t.D × T
  | _, T => T
def slotE (T : Type) : (x : Slot) → slotC x T → DVal × T
  | .b, y => (.b y.1, y.2)
  | .i k, y => (.i k y.1, y.2)
  | .s, y => (.s y.1, y.2)
  | .ro e tk, y => (.ro e y.1 tk, y.2)
  | .eptr id off, y => (.eptr id y.1 off, y.2)
  | .rop t off, y => (.rop t y.1 off, y.2)
  | .dead, y => (.dead, y)
  | .deadc, y => (.deadc, y)
  | .srf id, y => (.sref id none, y)
  | .vptr id off, y => (.vptr id off, y)
  | .fn f ids, y => (.fn f (ids.map fun id => .vptr id 0), y)
def slotsD : List Slot → Type
  | [] => Unit
  | x :: r => slotC x (slotsD r)
def slotsE : (l : List Slot) → slotsD l → List DVal
  | [], _ => []
  | x :: r, y => (slotE (slotsD r) x y).1 :: slotsE r (slotE (slotsD r) x y).2
def vslotsD : List (Nat × VSlot) → Type
  | [] => Unit
  | (_, .var cs) :: r => slotsD cs × vslotsD r
  | (_, .arr e) :: r => List e.D × vslotsD r
def vslotsE : (l : List (Nat × VSlot)) → vslotsD l → List (Nat × DVar)
  | [], _ => []
  | (id, .var cs) :: r, x => (id, .var (slotsE cs x.1)) :: vslotsE r x.2
  | (id, .arr e) :: r, x => (id, .arr e x.1) :: vslotsE r x.2

def Slot.isC : Slot → Bool
  | .dead => false
  | _ => true

structure Shape where
  t : List Slot
  v : List (Nat × VSlot)
abbrev Shape.D (S : Shape) : Type := slotsD S.t × vslotsD S.v
def Shape.enc (S : Shape) (x : S.D) : DSt := { t := slotsE S.t x.1, v := vslotsE S.v x.2, k := 0 :: S.v.map (·.1 / 64), kn := [] }

/-- Which numbers of a state are which of a shape: (the shape's, the state's). -/
def inferC : List Nat → List DVal → List (Nat × Nat)
  | a :: r, .vptr b _ :: q => (a, b) :: inferC r q
  | _, _ => []
def inferT : List Slot → List DVal → List (Nat × Nat)
  | .srf id :: r, .sref id' none :: q => (id, id') :: inferT r q
  | .vptr id _ :: r, .vptr id' _ :: q => (id, id') :: inferT r q
  | .eptr id _ :: r, .eptr id' _ _ :: q => (id, id') :: inferT r q
  | .fn _ ids :: r, .fn _ caps :: q => inferC ids caps ++ inferT r q
  | _ :: r, _ :: q => inferT r q
  | _, _ => []
def lookN : List (Nat × Nat) → Nat → Option Nat
  | [], _ => none
  | (a, b) :: r, x => if a = x then some b else lookN r x
def inferV (v : List (Nat × DVar)) : List (Nat × VSlot) → List (Nat × Nat) → List (Nat × Nat)
  | [], m => m
  | (id, .var cs) :: r, m =>
    match (lookN m id).bind (lookV v) with
    | some (.var ds) => inferV v r (m ++ inferT cs ds)
    | _ => inferV v r m
  | (_, .arr _) :: r, m => inferV v r m

def capsX (m : List (Nat × Nat)) : List Nat → List DVal → Bool
  | [], [] => true
  | a :: r, .vptr b 0 :: q => decide (lookN m a = some b) && capsX m r q
  | _, _ => false
def slotX (m : List (Nat × Nat)) (T : Type) : (x : Slot) → DVal → Option (T → slotC x T)
  | .dead, _ => some fun y => y
  | .deadc, d => if d.isCell = true then some fun y => y else none
  | .b, .b x => some fun y => (x, y)
  | .i k, .i k' x => if k = k' then some fun y => (x, y) else none
  | .s, .s x => some fun y => (x, y)
  | .ro e tk, .ro e' xs tk' => if tk = none ∨ tk = tk' then (Ty.cast (.sl e') (.sl e) xs).map fun x y => (x, y) else none
  | .srf id, .sref id' none => if lookN m id = some id' then some fun y => y else none
  | .vptr id off, .vptr id' off' => if lookN m id = some id' ∧ off = off' then some fun y => y else none
  | .eptr id off, .eptr id' x off' => if lookN m id = some id' ∧ off = off' then some fun y => (x, y) else none
  | .fn f ids, .fn f' caps => if f = f' ∧ capsX m ids caps = true then some fun y => y else none
  | .rop t off, .rop t' x off' => if off = off' then (Ty.cast t' t x).map fun x y => (x, y) else none
  | _, _ => none
def slotsX (m : List (Nat × Nat)) : (l : List Slot) → List DVal → Option (slotsD l)
  | [], [] => some ()
  | x :: r, d :: q => (slotX m (slotsD r) x d).bind fun f => (slotsX m r q).map f
  | _, _ => none
/-- The list of a variable, put together again where a part of it is held beside it. -/
def wholeV (v : List (Nat × DVar)) (e : Ty) (x : DVar) : Option (List e.D) := (unfoc (lookV v) x).bind fun y => Ty.cast (.sl y.1) (.sl e) y.2
def vslotsX (m : List (Nat × Nat)) (v : List (Nat × DVar)) : (l : List (Nat × VSlot)) → Option (vslotsD l)
  | [] => some ()
  | (id, .var cs) :: r =>
    match (lookN m id).bind (lookV v) with
    | some (.var ds) => if cs.all Slot.isC = true then (slotsX m cs ds).bind fun x => (vslotsX m v r).map fun y => (x, y) else none
    | _ => none
  | (id, .arr e) :: r =>
    match (lookN m id).bind (lookV v) with
    | some x => (wholeV v e x).bind fun x => (vslotsX m v r).map fun y => (x, y)
    | none => none
/-- All numbers that a state's shape takes of it: those of lists held beside others with them. -/
def takenV (m : List (Nat × Nat)) (v : List (Nat × DVar)) : List (Nat × VSlot) → List Nat
  | [] => []
  | (id, _) :: r =>
    match lookN m id with
    | some k => k :: (((lookV v k).map focIds).getD [] ++ takenV m v r)
    | none => takenV m v r
/-- A state read as one of a shape. -/
def Shape.dec (S : Shape) (s : DSt) : Option S.D :=
  let m := inferV s.v S.v (inferT S.t s.t)
  if nodupB (takenV m s.v S.v) = true ∧ nodupB (S.v.map (·.1)) = true ∧ m.all (fun x => (S.v.map (·.1)).contains x.1 && (decide (64 ≤ x.1) || x.1 == x.2)) = true then
    (slotsX m S.t s.t).bind fun x => (vslotsX m s.v S.v).map fun y => (x, y)
  else none

/-! ## Code -/
/-- No loop makes more rounds. -/
abbrev FUEL : Nat := 18446744073709551616

/-- What is told of a loop: the shape of its head, the one behind it, and the one where the function returns out of it. -/
structure LoopAnn where
  head : Shape
  out : Shape
  ret : Option Shape

/-- What a round comes to. -/
inductive Round (α β γ : Type) where
  | again (x : α)
  | out (y : β)
  | ret (z : γ)

def iter {α β γ : Type} (f : α → Out (Round α β γ)) : Nat → α → Option (β ⊕ γ)
  | 0, _ => none
  | n + 1, x =>
    match (f x).eval with
    | some (.again x') => iter f n x'
    | some (.out y) => some (.inl y)
    | some (.ret z) => some (.inr z)
    | none => none
def iter1 {α β : Type} (f : α → Out (Round α β Empty)) (n : Nat) (x : α) : Option β :=
  (iter f n x).map fun r => match r with
    | .inl y => y
    | .inr z => nomatch z

def retD : Option Shape → Type
  | some S => S.D
  | none => Empty

/-- A round's end, read as what it comes to. -/
def leafD (id : Nat) (A : LoopAnn) (r : Ex × DSt) : Out (Round A.head.D A.out.D (retD A.ret)) :=
  match r.1 with
  | .normal => .of (A.head.dec r.2) fun x => .ret (.again x)
  | .exit n => if n = id then .of (A.out.dec r.2) fun y => .ret (.out y) else .fail
  | .ret =>
    match A.ret, (inferInstance : Inhabited Unit) with
    | some S, _ => .of (S.dec r.2) fun z => .ret (.ret z)
    | none, _ => .fail

def loopL (id : Nat) (A : LoopAnn) (f : DSt → Out (Ex × DSt)) (s : DSt) : Out (Ex × DSt) :=
  .of (A.head.dec s) fun x =>
    match A.ret, (fun x => (f (A.head.enc x)).bind (leafD id A) : A.head.D → Out (Round A.head.D A.out.D (retD A.ret))) with
    | some S, g => .get (iter g FUEL x) fun r => .alt r (fun y => .ret (.normal, A.out.enc y)) fun z => .ret (.ret, S.enc z)
    | none, g => .get (iter1 g FUEL x) fun y => .ret (.normal, A.out.enc y)

def loopBody : Code → Option Code
  | .loop b => some b
  | _ => none

/-- Code. 'A' tells of the loops, by the blocks that they stand in. -/
def dexec (C : Cx) (A : Nat → Option LoopAnn) : Code → DSt → Out (Ex × DSt)
  | .skip, s => .ret (.normal, s)
  | .ret, s => .ret (.ret, s)
  | .exit n, s => .ret (.exit n, s)
  | .seq a b, s => (dexec C A a s).bind fun r =>
    match r.1 with
    | .normal => dexec C A b r.2
    | _ => .ret r
  | .cond c x y, s =>
    match knOf s.kn c with
    | some true => dexec C A x s
    | some false => dexec C A y s
    | none =>
      match c, evF (fun j => s.t.getD j .dead) c with
      | .tmp d, .b p => .ite p (dexec C A x { s with t := s.t.set d (.b true), kn := (d, true) :: s.kn }) (dexec C A y { s with t := s.t.set d (.b false), kn := (d, false) :: s.kn })
      | _, _ => .fail
  | .block id (.loop b), s =>
    match A id with
    | some a => loopL id a (dexec C A b) s
    | none => .fail
  | .block id c, s => (dexec C A c s).map (blockEx id)
  | .region id ops draw, s => (region C id ops.toList draw s).map fun s' => (.normal, s')
  | _, _ => .fail
end Go.Proofs.Ytjcinikojcfebaa.Dm
