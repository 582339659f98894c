/- The data machine, part 2: values, variables, what each operation does to them, and how code runs on them. Nothing is proved of the model here. -/
import Derived.Test.YtjcinikojcfebaaDm1
namespace Go.Proofs.Ytjcinikojcfebaa.Dm
open Go

/-! ## Parts of a datum by the number of cells ahead of them -/
mutual
def Ty.getOff : (t : Ty) → t.D → Nat → (u : Ty) → Option u.D
  | .st fs, x, off, u => if off = 0 ∧ (Ty.st fs).beq u = true then Ty.cast (.st fs) u x else fs.getOff x off u
  | t, x, off, u => if off = 0 then Ty.cast t u x else none
def Tys.getOff : (ts : Tys) → ts.D → Nat → (u : Ty) → Option u.D
  | .nil, _, _, _ => none
  | .cons t ts, x, off, u => if off < t.size then t.getOff x.1 off u else ts.getOff x.2 (off - t.size) u
end
mutual
def Ty.setOff : (t : Ty) → t.D → Nat → (u : Ty) → u.D → Option t.D
  | .st fs, x, off, u, y => if off = 0 ∧ u.beq (Ty.st fs) = true then Ty.cast u (.st fs) y else fs.setOff x off u y
  | t, _, off, u, y => if off = 0 then Ty.cast u t y else none
def Tys.setOff : (ts : Tys) → ts.D → Nat → (u : Ty) → u.D → Option ts.D
  | .nil, _, _, _, _ => none
  | .cons t ts, x, off, u, y => if off < t.size then (t.setOff x.1 off u y).map fun z => (z, x.2) else (ts.setOff x.2 (off - t.size) u y).map fun z => (x.1, z)
end
mutual
/-- No slice inside. -/
def Ty.flat : Ty → Bool
  | .sl _ => false
  | .st fs => fs.flat
  | _ => true
def Tys.flat : Tys → Bool
  | .nil => true
  | .cons t ts => t.flat && ts.flat
end
/-- Where a field begins. -/
def Tys.offset : Tys → Nat → Option (Nat × Ty)
  | .nil, _ => none
  | .cons t _, 0 => some (0, t)
  | .cons t ts, k + 1 => (ts.offset k).map fun x => (t.size + x.1, x.2)
def Ty.field (t : Ty) (k : Nat) : Option (Nat × Ty) :=
  match t with
  | .st fs => fs.offset k
  | _ => none

/-! ## Values -/
inductive DVal where
  | dead
  | deadc
  | undef
  | b (x : Bool)
  | i (k : IntKind) (x : Int)
  | s (x : List UInt8)
  | ro (e : Ty) (xs : List e.D) (tk : Option Nat)
  | nilS
  | sref (id : Nat) (vw : Option (Nat × Nat))
  | vptr (id off : Nat)
  | eptr (id i off : Nat)
  | rop (t : Ty) (x : t.D) (off : Nat)
  | agg (vs : List DVal)
  | tup (vs : List DVal)
  | fn (f : Nat) (caps : List DVal)

inductive DVar where
  | var (cs : List DVal)
  | arr (e : Ty) (xs : List e.D)
  | foc (e : Ty) (xs : List e.D) (x : e.D) (i off : Nat) (u : Ty) (id : Nat)

mutual
def DVal.ids : DVal → List Nat
  | .sref id _ => [id]
  | .vptr id _ => [id]
  | .eptr id _ _ => [id]
  | .agg vs => DVal.idsL vs
  | .tup vs => DVal.idsL vs
  | .fn _ vs => DVal.idsL vs
  | _ => []
def DVal.idsL : List DVal → List Nat
  | [] => []
  | v :: vs => v.ids ++ DVal.idsL vs
end
def DVar.ids : DVar → List Nat
  | .var cs => DVal.idsL cs
  | .arr _ _ => []
  | .foc _ _ _ _ _ _ id => [id]

/-- A value of one cell. -/
def DVal.isCell : DVal → Bool
  | .dead | .undef | .agg _ | .tup _ => false
  | _ => true
def DVal.cells : DVal → List DVal
  | .agg vs => vs
  | v => [v]

mutual
/-- The cells of a datum that is only read. -/
def Ty.flatR : (t : Ty) → t.D → List DVal
  | .bool, x => [.b x]
  | .int k, x => [.i k x]
  | .str, x => [.s x]
  | .sl e, x => [.ro e x none]
  | .st fs, x => fs.flatR x
def Tys.flatR : (ts : Tys) → ts.D → List DVal
  | .nil, _ => []
  | .cons t ts, x => t.flatR x.1 ++ ts.flatR x.2
end
mutual
/-- The cells of a datum of one's own, its slices left out. -/
def Ty.flatO : (t : Ty) → t.D → List DVal
  | .bool, x => [.b x]
  | .int k, x => [.i k x]
  | .str, x => [.s x]
  | .sl _, _ => [.deadc]
  | .st fs, x => fs.flatO x
def Tys.flatO : (ts : Tys) → ts.D → List DVal
  | .nil, _ => []
  | .cons t ts, x => t.flatO x.1 ++ ts.flatO x.2
end
mutual
def Ty.zeroC : Ty → List DVal
  | .bool => [.b false]
  | .int k => [.i k 0]
  | .str => [.s []]
  | .sl _ => [.nilS]
  | .st fs => fs.zeroC
def Tys.zeroC : Tys → List DVal
  | .nil => []
  | .cons t ts => t.zeroC ++ ts.zeroC
end
def Ty.isSt : Ty → Bool
  | .st _ => true
  | _ => false
/-- A value out of its cells. -/
def mkVal (t : Ty) (cs : List DVal) : DVal :=
  match t.isSt, cs with
  | true, cs => .agg cs
  | false, [c] => c
  | false, _ => .dead

/-! ## Results with tests and parts that may fail, laid open -/
inductive Out (ρ : Type) : Type 1 where
  | ret (r : ρ)
  | fail
  | ite (c : Bool) (a b : Out ρ)
  | get {α : Type} (o : Option α) (k : α → Out ρ)
  | alt {α β : Type} (o : α ⊕ β) (k : α → Out ρ) (h : β → Out ρ)

def Out.bind {ρ σ : Type} : Out ρ → (ρ → Out σ) → Out σ
  | .ret r, f => f r
  | .fail, _ => .fail
  | .ite c a b, f => .ite c (a.bind f) (b.bind f)
  | .get o k, f => .get o fun x => (k x).bind f
  | .alt o k h, f => .alt o (fun x => (k x).bind f) fun x => (h x).bind f
def Out.map {ρ σ : Type} (f : ρ → σ) (o : Out ρ) : Out σ := o.bind fun r => .ret (f r)
def Out.eval {ρ : Type} : Out ρ → Option ρ
  | .ret r => some r
  | .fail => none
  | .ite c a b => bif c then a.eval else b.eval
  | .get o k => o.bind fun x => (k x).eval
  | .alt o k h => match o with
    | .inl x => (k x).eval
    | .inr x => (h x).eval
def Out.ofOption {ρ : Type} : Option ρ → Out ρ
  | some r => .ret r
  | none => .fail
/-- A step that is sure to be decided by computing. -/
def Out.of {α ρ : Type} (o : Option α) (k : α → Out ρ) : Out ρ :=
  match o with
  | some x => k x
  | none => .fail

theorem Out.eval_bind {ρ σ : Type} (o : Out ρ) (f : ρ → Out σ) : (o.bind f).eval = o.eval.bind fun r => (f r).eval := by
  induction o with
  | ret r => rfl
  | fail => rfl
  | ite c a b iha ihb => cases c <;> simp [Out.bind, Out.eval, iha, ihb]
  | get o k ih => cases o <;> simp [Out.bind, Out.eval, ih]
  | alt o k h ih ih' => cases o <;> simp [Out.bind, Out.eval, ih, ih']
theorem Out.eval_map {ρ σ : Type} (f : ρ → σ) (o : Out ρ) : (o.map f).eval = o.eval.map f := by
  rw [Out.map, Out.eval_bind]; cases o.eval <;> rfl

/-! ## Reading data out of values -/
abbrev Env := Nat → Option DVar

def unfoc (E : Env) : DVar → Option ((e : Ty) × List e.D)
  | .arr e xs => some ⟨e, xs⟩
  | .foc e xs x i off u id =>
    match E id with
    | some (.arr e' ys) => (Ty.cast (.sl e') u ys).bind fun y => (e.setOff x off u y).map fun x' => ⟨e, xs.set i x'⟩
    | _ => none
  | .var _ => none

/-- The lists that are in focus. -/
def focIds : DVar → List Nat
  | .foc _ _ _ _ _ _ id => [id]
  | _ => []

/-- The list that a slice holds. -/
def listOf (E : Env) (e : Ty) : DVal → Option (List e.D)
  | .ro e' xs _ => Ty.cast (.sl e') (.sl e) xs
  | .nilS => some []
  | .sref id none => (E id).bind fun v => (unfoc E v).bind fun x => Ty.cast (.sl x.1) (.sl e) x.2
  | .sref id (some (o, l)) => (E id).bind fun v => (unfoc E v).bind fun x => Ty.cast (.sl x.1) (.sl e) ((x.2.drop o).take l)
  | _ => none
def popB : List DVal → Option (Bool × List DVal)
  | .b x :: r => some (x, r)
  | _ => none
def popI (k : IntKind) : List DVal → Option (Int × List DVal)
  | .i k' x :: r => if k = k' then some (x, r) else none
  | _ => none
def popS : List DVal → Option (List UInt8 × List DVal)
  | .s x :: r => some (x, r)
  | _ => none
def popL (E : Env) (e : Ty) : List DVal → Option (List e.D × List DVal)
  | v :: r => (listOf E e v).map fun x => (x, r)
  | _ => none
mutual
/-- A datum read out of cells; and the cells behind it. -/
def Ty.frz (E : Env) : (t : Ty) → List DVal → Option (t.D × List DVal)
  | .bool, cs => popB cs
  | .int k, cs => popI k cs
  | .str, cs => popS cs
  | .sl e, cs => popL E e cs
  | .st fs, cs => fs.frz E cs
def Tys.frz (E : Env) : (ts : Tys) → List DVal → Option (ts.D × List DVal)
  | .nil, cs => some ((), cs)
  | .cons t ts, cs => (t.frz E cs).bind fun x => (ts.frz E x.2).map fun y => ((x.1, y.1), y.2)
end
def frzAll (E : Env) (t : Ty) (cs : List DVal) : Option t.D :=
  match t.frz E cs with
  | some (x, []) => some x
  | _ => none

/-- The list of a slice that is given away; and whose it was. -/
def takeL (E : Env) (e : Ty) : DVal → Option (List e.D × List Nat)
  | .nilS => some ([], [])
  | .sref id none => (E id).bind fun v => (unfoc E v).bind fun x => (Ty.cast (.sl x.1) (.sl e) x.2).map fun y => (y, id :: focIds v)
  | .sref id (some (o, l)) => (E id).bind fun v => (unfoc E v).bind fun x => (Ty.cast (.sl x.1) (.sl e) ((x.2.drop o).take l)).map fun y => (y, id :: focIds v)
  | _ => none
def popT (E : Env) (e : Ty) : List DVal → Option (List e.D × List DVal × List Nat)
  | v :: r => (takeL E e v).map fun x => (x.1, r, x.2)
  | _ => none
mutual
/-- A datum given away: what it is, what is behind it, and which lists went with it. -/
def Ty.takeO (E : Env) : (t : Ty) → List DVal → Option (t.D × List DVal × List Nat)
  | .bool, cs => (popB cs).map fun x => (x.1, x.2, [])
  | .int k, cs => (popI k cs).map fun x => (x.1, x.2, [])
  | .str, cs => (popS cs).map fun x => (x.1, x.2, [])
  | .sl e, cs => popT E e cs
  | .st fs, cs => fs.takeO E cs
def Tys.takeO (E : Env) : (ts : Tys) → List DVal → Option (ts.D × List DVal × List Nat)
  | .nil, cs => some ((), cs, [])
  | .cons t ts, cs => (t.takeO E cs).bind fun x => (ts.takeO E x.2.1).map fun y => ((x.1, y.1), y.2.1, x.2.2 ++ y.2.2)
end
def nodupB : List Nat → Bool
  | [] => true
  | a :: l => !l.contains a && nodupB l
def takeAll (E : Env) (t : Ty) (cs : List DVal) : Option (t.D × List Nat) :=
  match t.takeO E cs with
  | some (x, [], ids) => if nodupB ids = true then some (x, ids) else none
  | _ => none

mutual
/-- The cells of a datum that came as one's own: each of its slices is a new list, numbered on from 'n'. -/
def Ty.thaw : (t : Ty) → t.D → Nat → List DVal × List (Nat × DVar) × Nat
  | .bool, x, n => ([.b x], [], n)
  | .int k, x, n => ([.i k x], [], n)
  | .str, x, n => ([.s x], [], n)
  | .sl e, x, n => ([.sref n none], [(n, .arr e x)], n + 1)
  | .st fs, x, n => fs.thaw x n
def Tys.thaw : (ts : Tys) → ts.D → Nat → List DVal × List (Nat × DVar) × Nat
  | .nil, _, n => ([], [], n)
  | .cons t ts, x, n =>
    let a := t.thaw x.1 n
    let b := ts.thaw x.2 a.2.2
    (a.1 ++ b.1, a.2.1 ++ b.2.1, b.2.2)
end

/-! ## What an operation does -/
abbrev Upd := List (Nat × Option DVar)
abbrev Res := DVal × Upd

structure Cx where
  ty : Nat → Option Ty
  eqv : Nat → Bool
  call : Nat → List DVal → Env → Nat → Out Res

def ofValue : Value → DVal
  | .bool x => .b x
  | .int k n => .i k n
  | .string s => if s.data.toList.length ≤ BIG then .s s.data.toList else .dead
  | .slice none 0 0 => .nilS
  | _ => .dead

abbrev LIM : Nat := 68719476736

/-- The operands that an operation looks at. -/
def opnds : Op → List Operand
  | .move x | .assign x | .box _ x | .load _ x | .nilCheck x | .unOp _ _ x | .convert _ _ x | .fieldAddr _ x _ | .field _ x _ | .extract x _ => [x]
  | .pick c a b => [c, a, b]
  | .build _ ps | .buildSlice _ _ ps => ps.toList.map (·.2)
  | .store _ a v | .binOp _ _ a v _ | .makeSlice _ a v | .indexAddr _ a v | .index _ a v => [a, v]
  | .slice _ x l h m => [x] ++ l.toList ++ h.toList ++ m.toList
  | .makeFunc _ _ cs => cs.toList
  | .call c => c.operands.toList
  | _ => []

def ret1 (v : DVal) : Out Res := .ret (v, [])
def spliceL (cs : List DVal) (off : Nat) (new : List DVal) : List DVal := cs.take off ++ new ++ cs.drop (off + new.length)

def binInt (op : BinOp) (k : IntKind) (x y : Int) : Out Res :=
  match op with
  | .add => ret1 (.i k (k.wrap (x + y)))
  | .sub => ret1 (.i k (k.wrap (x - y)))
  | .mul => ret1 (.i k (k.wrap (x * y)))
  | .quo => .ite (y == 0) .fail (ret1 (.i k (k.wrap (x.tdiv y))))
  | .rem => .ite (y == 0) .fail (ret1 (.i k (x.tmod y)))
  | .and => ret1 (.i k (k.wrap (BitVec.ofInt k.bits x &&& BitVec.ofInt k.bits y).toNat))
  | .or => ret1 (.i k (k.wrap (BitVec.ofInt k.bits x ||| BitVec.ofInt k.bits y).toNat))
  | .xor => ret1 (.i k (k.wrap (BitVec.ofInt k.bits x ^^^ BitVec.ofInt k.bits y).toNat))
  | .andNot => ret1 (.i k (k.wrap (BitVec.ofInt k.bits x &&& ~~~(BitVec.ofInt k.bits y)).toNat))
  | .eql => ret1 (.b (x == y))
  | .neq => ret1 (.b (x != y))
  | .lss => ret1 (.b (decide (x < y)))
  | .leq => ret1 (.b (decide (x ≤ y)))
  | .gtr => ret1 (.b (decide (x > y)))
  | .geq => ret1 (.b (decide (x ≥ y)))
  | _ => .fail
def binShift (op : BinOp) (k : IntKind) (x y : Int) : Out Res :=
  match op with
  | .shl => .ite (decide (y < 0)) .fail (ret1 (.i k (k.wrap (x * 2 ^ (min y.toNat k.bits)))))
  | .shr => .ite (decide (y < 0)) .fail (ret1 (.i k (x.fdiv (2 ^ (min y.toNat k.bits)))))
  | _ => .fail
def binStr (op : BinOp) (x y : List UInt8) : Out Res :=
  match op with
  | .add => .ite (decide (x.length + y.length ≤ LIM)) (ret1 (.s (x ++ y))) .fail
  | .eql => ret1 (.b (x == y))
  | .neq => ret1 (.b (x != y))
  | .lss => ret1 (.b (Op.bytesLess x y))
  | .leq => ret1 (.b (Op.bytesLess x y || x == y))
  | .gtr => ret1 (.b (!(Op.bytesLess x y || x == y)))
  | .geq => ret1 (.b (!(Op.bytesLess x y)))
  | _ => .fail
/-- Are two plain cells alike? -/
def eqCell : Ty → DVal → DVal → Option Bool
  | .bool, .b x, .b y => some (x == y)
  | .int k, .i k1 x, .i k2 y => if k1 = k ∧ k2 = k then some (x == y) else none
  | .str, .s x, .s y => some (x == y)
  | _, _, _ => none
def Tys.eqC : Tys → List DVal → List DVal → Option Bool
  | .nil, [], [] => some true
  | .cons t ts, x :: r, y :: q => (eqCell t x y).bind fun b => (ts.eqC r q).map fun z => b && z
  | _, _, _ => none
def Ty.eqC : Ty → List DVal → List DVal → Option Bool
  | .st fs, x, y => fs.eqC x y
  | _, _, _ => none
def isShift : BinOp → Bool
  | .shl | .shr => true
  | _ => false
def isBoolT : Option Ty → Bool
  | some .bool => true
  | _ => false
def binD (t : Option Ty) (op : BinOp) (x y : DVal) : Out Res :=
  match x, y with
  | .i k a, .i k' b => if isShift op = true then binShift op k a b else if k = k' then binInt op k a b else .fail
  | .s a, .s b => binStr op a b
  | .b a, .b b => if isBoolT t = true then
    match op with
    | .eql => ret1 (.b (a == b))
    | .neq => ret1 (.b (!(a == b)))
    | _ => .fail else .fail
  | _, _ => .fail

def eqOut (op : BinOp) (z : Bool) : Out Res :=
  match op with
  | .eql => ret1 (.b z)
  | .neq => ret1 (.b (!z))
  | _ => .fail

def unD (op : UnOp) (x : DVal) : Out Res :=
  match op, x with
  | .not, .b a => ret1 (.b (!a))
  | .neg, .i k a => ret1 (.i k (k.wrap (0 - a)))
  | _, _ => .fail

/-- The length of a slice. -/
def lenD (E : Env) : DVal → Option Nat
  | .ro _ xs _ => some xs.length
  | .nilS => some 0
  | .sref id none =>
    match E id with
    | some (.arr _ xs) => some xs.length
    | some (.foc _ xs _ _ _ _ _) => some xs.length
    | _ => none
  | .sref _ (some (_, l)) => some l
  | _ => none
def lenT (E : Env) (t : Ty) (x : DVal) : Option Nat :=
  match t, x with
  | .str, .s x => some x.length
  | .sl _, x => lenD E x
  | _, _ => none
/-- How many cells an item of a variable's list has. -/
def itemSize (E : Env) (id : Nat) : Option Nat :=
  match E id with
  | some (.arr e _) => some e.size
  | some (.foc e _ _ _ _ _ _) => some e.size
  | _ => none

/-- The address of an item; 'es': how many cells the type says that it has. -/
def indexD (E : Env) (es : Nat) (x : DVal) (n : Int) : Out Res :=
  match x with
  | .ro e xs _ => if e.size = es then .ite (decide (0 ≤ n)) (.get (nth xs n.toNat) fun y => ret1 (.rop e y 0)) .fail else .fail
  | .sref id none =>
    .of (lenD E (.sref id none)) fun l => if itemSize E id = some es then .ite (decide (0 ≤ n ∧ n < (l : Int))) (ret1 (.eptr id n.toNat 0)) .fail else .fail
  | .sref id (some (o, l)) => if itemSize E id = some es then .ite (decide (0 ≤ n ∧ n < (l : Int))) (ret1 (.eptr id (o + n.toNat) 0)) .fail else .fail
  | _ => .fail

/-- A load. -/
def loadD (E : Env) (t : Ty) (a : DVal) (fr : Nat) : Out Res :=
  match a with
  | .vptr id off =>
    match E id with
    | some (.var cs) => if off + t.size ≤ cs.length then ret1 (mkVal t ((cs.drop off).take t.size)) else .fail
    | _ => .fail
  | .rop t' x off => .of (t'.getOff x off t) fun y => ret1 (mkVal t (t.flatR y))
  | .eptr id i off =>
    .of (E id) fun v => .of (unfoc E v) fun ex => .get (nth ex.2 i) fun x => .of (ex.1.getOff x off t) fun y =>
      match t, y with
      | .sl e', y => .ret (.sref fr none, ((focIds v).map fun k => (k, none)) ++ [(id, some (.foc ex.1 ex.2 x i off (.sl e') fr)), (fr, some (.arr e' y))])
      | t, y => ret1 (mkVal t (t.flatO y))
  | _ => .fail

def storeD (E : Env) (t : Ty) (a v : DVal) : Out Res :=
  match a with
  | .vptr id off =>
    match E id with
    | some (.var cs) =>
      if off + t.size ≤ cs.length ∧ v.cells.length = t.size ∧ v.cells.all DVal.isCell = true then .ret (.undef, [(id, some (.var (spliceL cs off v.cells)))]) else .fail
    | _ => .fail
  | .eptr id i off =>
    .of (E id) fun w => .of (takeAll E t v.cells) fun y => if y.2.contains id = true ∨ v.cells.all DVal.isCell = false then .fail else
      if y.2.any (fun k => (focIds w).contains k) = true then
        match w with
        | .foc e xs _ j off' u _ => if off = off' ∧ t.beq u = true then
            .ite (i == j) (.get (nth xs i) fun x => .of (e.setOff x off t y.1) fun x' => .ret (.undef, (y.2.map fun k => (k, none)) ++ [(id, some (.arr e (xs.set i x')))])) .fail else .fail
        | _ => .fail
      else .of (unfoc E w) fun ex => .get (nth ex.2 i) fun x => .of (ex.1.setOff x off t y.1) fun x' =>
        .ret (.undef, ((focIds w ++ y.2).map fun k => (k, none)) ++ [(id, some (.arr ex.1 (ex.2.set i x')))])
  | _ => .fail

def getB : DVal → Option Bool
  | .b x => some x
  | _ => none
def getI : DVal → Option Int
  | .i _ x => some x
  | _ => none

/-- 'x[lo:hi]' of a text. -/
def sliceS (l : List UInt8) (lo hi : Option Int) : Out Res :=
  let lo' := lo.getD 0
  match hi with
  | none => .ite (decide (0 ≤ lo' ∧ lo' ≤ (l.length : Int))) (ret1 (.s (l.drop lo'.toNat))) .fail
  | some h => .ite (decide (0 ≤ lo' ∧ lo' ≤ h ∧ h ≤ (l.length : Int))) (ret1 (.s ((l.take h.toNat).drop lo'.toNat))) .fail
/-- 'x[lo:hi]' of a slice. -/
def sliceD (E : Env) (es : Nat) (x : DVal) (lo hi : Option Int) : Out Res :=
  let lo' := lo.getD 0
  match x with
  | .ro e l _ => if e.size = es then
    match hi with
    | none => .ite (decide (0 ≤ lo' ∧ lo' ≤ (l.length : Int))) (ret1 (.ro e (l.drop lo'.toNat) none)) .fail
    | some h => .ite (decide (0 ≤ lo' ∧ lo' ≤ h ∧ h ≤ (l.length : Int))) (ret1 (.ro e ((l.take h.toNat).drop lo'.toNat) none)) .fail
    else .fail
  | .sref id vw =>
    .of (lenD E (.sref id vw)) fun n => if itemSize E id = some es then
      .ite (decide (0 ≤ lo' ∧ lo' ≤ hi.getD n ∧ hi.getD n ≤ (n : Int))) (ret1 (.sref id (some ((vw.map (·.1)).getD 0 + lo'.toNat, (hi.getD n).toNat - lo'.toNat)))) .fail
      else .fail
  | _ => .fail

def sliceT (E : Env) (t : Ty) (x : DVal) (lo hi : Option Int) : Out Res :=
  match t, x with
  | .str, .s x => sliceS x lo hi
  | .sl e, x => sliceD E e.size x lo hi
  | _, _ => .fail

/-- 'append(x, y...)' -/
def appendD (E : Env) (e : Ty) (x y : DVal) (fr : Nat) : Out Res :=
  .of (takeL E e x) fun a =>
    match e.flat, y with
    | true, y => .of (listOf E e y) fun b => if y.ids.any (a.2.contains ·) = true then .fail else
      .ite (decide (List.length a.1 + List.length b ≤ LIM)) (.ret (.sref fr none, (a.2.map fun k => (k, none)) ++ [(fr, some (.arr e (a.1 ++ b)))])) .fail
    | false, y => .of (takeL E e y) fun b => if b.2.any (a.2.contains ·) = true then .fail else
      .ite (decide (List.length a.1 + List.length b.1 ≤ LIM)) (.ret (.sref fr none, ((a.2 ++ b.2).map fun k => (k, none)) ++ [(fr, some (.arr e (a.1 ++ b.1)))])) .fail

def fillAt (t : Ty) (ev : Operand → DVal) : List (Nat × Operand) → List DVal → Option (List DVal)
  | [], cs => some cs
  | (k, x) :: r, cs =>
    match t.field k with
    | some (off, u) => if (ev x).cells.length = u.size ∧ (ev x).cells.all DVal.isCell = true then fillAt t ev r (spliceL cs off (ev x).cells) else none
    | none => none

/-- The list of a slice literal; and the lists that went into it. -/
def fillList (E : Env) (e : Ty) (ev : Operand → DVal) : List (Nat × Operand) → List e.D → List Nat → Option (List e.D × List Nat)
  | [], xs, g => some (xs, g)
  | (k, x) :: r, xs, g => if xs.length ≤ k ∨ (ev x).cells.all DVal.isCell = false then none else
    (takeAll E e (ev x).cells).bind fun y => if y.2.any (g.contains ·) = true then none else fillList E e ev r (xs.set k y.1) (g ++ y.2)

def isSl : Ty → Option Ty
  | .sl e => some e
  | _ => none

def isBytes : Option Ty → Bool
  | some (.sl (.int .u8)) => true
  | _ => false
def convD (C : Cx) (E : Env) (src dst : Nat) (x : DVal) : Out Res :=
  .of (C.ty dst) fun t =>
    match t, x with
    | .int k, .i _ n => if (C.ty src).isSome = true then ret1 (.i k (k.wrap n)) else .fail
    | .str, .s l => if (C.ty src).isSome = true then ret1 (.s l) else .fail
    | .str, x => if isBytes (C.ty src) = true then .of (listOf E (.int .u8) x) fun (l : List Int) => ret1 (.s (l.map fun n => UInt8.ofNat n.toNat)) else .fail
    | _, _ => .fail

/-- The empty slice of a type, as a list of its own. -/
def nilD (C : Cx) (ty : Nat) (x : DVal) (fr : Nat) : Out Res :=
  match x with
  | .nilS =>
    match (C.ty ty).bind isSl with
    | some e => .ret (.sref fr none, [(fr, some (.arr e []))])
    | none => ret1 .nilS
  | x => ret1 x
/-- New variables. -/
def news (l : List (Nat × DVar)) : Upd := l.map fun x => (x.1, some x.2)

def core (C : Cx) (op : Op) (ty : Nat) (ev : Operand → DVal) (E : Env) (fr : Nat) : Out Res :=
  match op with
  | .move x | .assign x => nilD C ty (ev x) fr
  | .pick c a b => .of (getB (ev c)) fun x => .ite x (ret1 (ev a)) (ret1 (ev b))
  | .alloc t => .of (C.ty t) fun t => if (t.thaw t.zero (fr + 1)).2.2 ≤ fr + 64 then
    .ret (.vptr fr 0, news (t.thaw t.zero (fr + 1)).2.1 ++ [(fr, some (.var (t.thaw t.zero (fr + 1)).1))]) else .fail
  | .box t x => .of (C.ty t) fun t => if (ev x).cells.length = t.size ∧ (ev x).cells.all DVal.isCell = true then .ret (.vptr fr 0, [(fr, some (.var (ev x).cells))]) else .fail
  | .build t ps => .of (C.ty t) fun t => if t.isSt = true ∧ (t.thaw t.zero fr).2.2 ≤ fr + 64 then
    .of (fillAt t ev ps.toList (t.thaw t.zero fr).1) fun cs => .ret (.agg cs, news (t.thaw t.zero fr).2.1) else .fail
  | .buildSlice t n ps => .of (C.ty t) fun t => .of (isSl t) fun e => if n * e.size ≤ 16777216 then
      .of (fillList E e ev ps.toList (List.replicate n e.zero) []) fun y => .ret (.sref fr none, (y.2.map fun k => (k, none)) ++ [(fr, some (.arr e y.1))]) else .fail
  | .load t a => .of (C.ty t) fun t => loadD E t (ev a) fr
  | .store t a v => .of (C.ty t) fun t => storeD E t (ev a) (ev v)
  | .nilCheck x =>
    match ev x with
    | .vptr id off => ret1 (.vptr id off)
    | .eptr id i off => ret1 (.eptr id i off)
    | .rop t x off => ret1 (.rop t x off)
    | _ => .fail
  | .binOp op t x y _ =>
    match ev x, ev y with
    | .agg a, .agg b => .of (C.ty t) fun ty => if C.eqv t = true then
        .of (ty.eqC a b) fun z => eqOut op z else .fail
    | a, b => binD (C.ty t) op a b
  | .unOp op _ x => unD op (ev x)
  | .convert src d x => convD C E src d (ev x)
  | .fieldAddr t x k => .of (C.ty t) fun t => .of (t.field k) fun f =>
    match ev x with
    | .vptr id off => ret1 (.vptr id (off + f.1))
    | .eptr id i off => ret1 (.eptr id i (off + f.1))
    | .rop t x off => ret1 (.rop t x (off + f.1))
    | _ => .fail
  | .field t x k => .of (C.ty t) fun t => .of (t.field k) fun f =>
    match ev x with
    | .agg cs => if f.1 + f.2.size ≤ cs.length then ret1 (mkVal f.2 ((cs.drop f.1).take f.2.size)) else .fail
    | _ => .fail
  | .indexAddr t x n => .of (C.ty t) fun t => .of (isSl t) fun e => .of (getI (ev n)) fun n => indexD E e.size (ev x) n
  | .index t x n => .of (C.ty t) fun t => .of (getI (ev n)) fun n =>
    match t, ev x with
    | .str, .s l => .ite (decide (0 ≤ n)) (.get (nth l n.toNat) fun c => ret1 (.i .u8 (c.toNat : Int))) .fail
    | _, _ => .fail
  | .extract x k =>
    match ev x with
    | .tup vs => .of vs[k]? fun v => ret1 v
    | _ => .fail
  | .makeSlice t l c => .of (C.ty t) fun t => .of (isSl t) fun e => .of (getI (ev l)) fun n => .of (getI (ev c)) fun m =>
      .ite (decide (0 ≤ n ∧ n ≤ m ∧ m ≤ (LIM : Int))) (.ret (.sref fr none, [(fr, some (.arr e (List.replicate n.toNat e.zero)))])) .fail
  | .slice t x lo hi none => .of (C.ty t) fun t =>
    match lo.map fun z => getI (ev z), hi.map fun z => getI (ev z) with
    | some none, _ => .fail
    | _, some none => .fail
    | l, h => sliceT E t (ev x) (l.bind id) (h.bind id)
  | .makeFunc (.func f) first cs => if first.size = 0 then ret1 (.fn f (cs.toList.map ev)) else .fail
  | .call { callee := .builtin .len, args, argTypes } =>
    match args.toList, argTypes.toList with
    | [x], [t] => .of (C.ty t) fun t => .of (lenT E t (ev x)) fun n => ret1 (.i .i64 (n : Int))
    | _, _ => .fail
  | .call { callee := .builtin .append, args, argTypes } =>
    match args.toList, argTypes.toList with
    | [x, y], [t, t'] => if t = t' then .of (C.ty t) fun t => .of (isSl t) fun e => appendD E e (ev x) (ev y) fr else .fail
    | _, _ => .fail
  | .call { callee := .value (.func f), args, .. } => C.call f (args.toList.map ev) E fr
  | .call { callee := .value (.tmp f), args, .. } =>
    match ev (.tmp f) with
    | .fn g caps => C.call g (args.toList.map ev ++ caps) E fr
    | _ => .fail
  | _ => .fail
end Go.Proofs.Ytjcinikojcfebaa.Dm
