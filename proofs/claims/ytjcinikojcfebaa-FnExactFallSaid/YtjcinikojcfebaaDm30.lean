/- The data machine, part 30: what is told of a function: how its arguments come, what it makes of them, how they go back. Nothing is proved here. -/
import Derived.Test.YtjcinikojcfebaaDm29
namespace Go.Proofs.Ytjcinikojcfebaa.Dm
open Go

/-- A cell of an argument or of a result: a plain one; a list that is only read; one that is given away; one that is written in place. -/
inductive Cm where
  | b
  | i (k : IntKind)
  | s
  | ro (e : Ty)
  | own (e : Ty)
  | mut (e : Ty)

def cmC : Cm → Type → Type
  | .b, T => Bool × T
  | .i _, T => Int × T
  | .s, T => List UInt8 × T
  | .ro e, T => List e.D × T
  | .own e, T => List e.D × T
  | .mut e, T => List e.D × T
def cmD : List Cm → Type
  | [] => Unit
  | c :: r => cmC c (cmD r)

/-- What comes back of a cell: all that may have been changed. 'p': the cells of a variable whose address was given. -/
def backPC : Cm → Type → Type
  | .b, T => Bool × T
  | .i _, T => Int × T
  | .s, T => List UInt8 × T
  | .ro _, T => T
  | .own e, T => List e.D × T
  | .mut e, T => List e.D × T
def backVC : Cm → Type → Type
  | .mut e, T => List e.D × T
  | _, T => T
def backPD : List Cm → Type
  | [] => Unit
  | c :: r => backPC c (backPD r)
def backVD : List Cm → Type
  | [] => Unit
  | c :: r => backVC c (backVD r)

/-- An argument or a result: a value of some cells, or the address of a variable of them. -/
structure Item where
  ptr : Bool
  agg : Bool
  cs : List Cm

def itemsD : List Item → Type
  | [] => Unit
  | it :: r => cmD it.cs × itemsD r
def backID (it : Item) : Type :=
  match it with
  | ⟨true, _, cs⟩ => backPD cs
  | ⟨false, _, cs⟩ => backVD cs
def backD : List Item → Type
  | [] => Unit
  | it :: r => backID it × backD r

/-- How the arguments are made of the items: one as it is, or a function value that holds some. -/
abbrev Lay := List (Option (Nat × Nat))
def layV : Lay → List Value → List Value
  | [], _ => []
  | none :: r, v :: vs => v :: layV r vs
  | none :: r, [] => layV r []
  | some (g, k) :: r, vs => .func (.func g) #[] (vs.take k).toArray :: layV r (vs.drop k)
def layD : Lay → List DVal → List DVal
  | [], _ => []
  | none :: r, v :: vs => v :: layD r vs
  | none :: r, [] => layD r []
  | some (g, k) :: r, vs => .fn g (vs.take k) :: layD r (vs.drop k)
def unlay : Lay → List DVal → Option (List DVal)
  | [], [] => some []
  | none :: r, d :: ds => (unlay r ds).map fun q => d :: q
  | some (g, k) :: r, .fn g' caps :: ds => if g = g' ∧ caps.length = k then (unlay r ds).map fun q => caps ++ q else none
  | _, _ => none

/-! ## Data read out of arguments -/
def mutL (E : Env) (e : Ty) : DVal → Option (List e.D × List Nat)
  | .nilS => takeL E e .nilS
  | .sref id none => takeL E e (.sref id none)
  | _ => none

def takeC (E EL : Env) : (l : List Cm) → List DVal → Option (cmD l × List Nat)
  | [], [] => some ((), [])
  | .b :: r, .b x :: q => (takeC E EL r q).map fun y => ((x, y.1), y.2)
  | .i k :: r, .i k' x :: q => if k = k' then (takeC E EL r q).map fun y => ((x, y.1), y.2) else none
  | .s :: r, .s x :: q => (takeC E EL r q).map fun y => ((x, y.1), y.2)
  | .ro e :: r, d :: q => (listOf EL e d).bind fun x => (takeC E EL r q).map fun y => ((x, y.1), y.2)
  | .own e :: r, d :: q => (takeL E e d).bind fun z => (takeC E EL r q).map fun y => ((z.1, y.1), z.2 ++ y.2)
  | .mut e :: r, d :: q => (mutL E e d).bind fun z => (takeC E EL r q).map fun y => ((z.1, y.1), z.2 ++ y.2)
  | _, _ => none
def isAgg : DVal → Bool
  | .agg _ => true
  | _ => false
def takeI (E EL : Env) : (it : Item) → DVal → Option (cmD it.cs × List Nat)
  | ⟨false, a, cs⟩, d => if isAgg d = a ∧ d.cells.all DVal.isCell = true then takeC E EL cs d.cells else none
  | ⟨true, _, cs⟩, .vptr id off =>
    match E id with
    | some (.var l) => if off + cs.length ≤ l.length then (takeC E EL cs ((l.drop off).take cs.length)).map fun y => (y.1, id :: y.2) else none
    | _ => none
  | _, _ => none
def takeIs (E EL : Env) : (l : List Item) → List DVal → Option (itemsD l × List Nat)
  | [], [] => some ((), [])
  | it :: r, d :: q => (takeI E EL it d).bind fun x => (takeIs E EL r q).map fun y => ((x.1, y.1), x.2 ++ y.2)
  | _, _ => none

/-! ## Data given -/
def tkOf (tk : Bool) (n : Nat) : Option Nat := if tk then some n else none
def enterC (tk : Bool) : (l : List Cm) → cmD l → Nat → List DVal × List (Nat × DVar) × Nat
  | [], _, n => ([], [], n)
  | .b :: r, x, n => (.b x.1 :: (enterC tk r x.2 n).1, (enterC tk r x.2 n).2)
  | .i k :: r, x, n => (.i k x.1 :: (enterC tk r x.2 n).1, (enterC tk r x.2 n).2)
  | .s :: r, x, n => (.s x.1 :: (enterC tk r x.2 n).1, (enterC tk r x.2 n).2)
  | .ro e :: r, x, n => (.ro e x.1 (tkOf tk n) :: (enterC tk r x.2 (n + 1)).1, (enterC tk r x.2 (n + 1)).2)
  | .own e :: r, x, n => (.sref n none :: (enterC tk r x.2 (n + 1)).1, (n, .arr e x.1) :: (enterC tk r x.2 (n + 1)).2.1, (enterC tk r x.2 (n + 1)).2.2)
  | .mut e :: r, x, n => (.sref n none :: (enterC tk r x.2 (n + 1)).1, (n, .arr e x.1) :: (enterC tk r x.2 (n + 1)).2.1, (enterC tk r x.2 (n + 1)).2.2)
def headV (a : Bool) (l : List DVal) : DVal := if a then .agg l else l.headD .dead
def enterI (tk : Bool) : (it : Item) → cmD it.cs → Nat → DVal × List (Nat × DVar) × Nat
  | ⟨false, a, cs⟩, x, n => (headV a (enterC tk cs x n).1, (enterC tk cs x n).2)
  | ⟨true, _, cs⟩, x, n => (.vptr n 0, (enterC tk cs x (n + 1)).2.1 ++ [(n, .var (enterC tk cs x (n + 1)).1)], (enterC tk cs x (n + 1)).2.2)
def enterIs (tk : Bool) : (l : List Item) → itemsD l → Nat → List DVal × List (Nat × DVar) × Nat
  | [], _, n => ([], [], n)
  | it :: r, x, n => ((enterI tk it x.1 n).1 :: (enterIs tk r x.2 (enterI tk it x.1 n).2.2).1, (enterI tk it x.1 n).2.1 ++ (enterIs tk r x.2 (enterI tk it x.1 n).2.2).2.1, (enterIs tk r x.2 (enterI tk it x.1 n).2.2).2.2)

/-! ## What comes back, in the function -/
def takeBP (E : Env) : (l : List Cm) → Nat → List DVal → Option (backPD l × List Nat)
  | [], _, [] => some ((), [])
  | .b :: r, n, .b x :: q => (takeBP E r n q).map fun y => ((x, y.1), y.2)
  | .i k :: r, n, .i k' x :: q => if k = k' then (takeBP E r n q).map fun y => ((x, y.1), y.2) else none
  | .s :: r, n, .s x :: q => (takeBP E r n q).map fun y => ((x, y.1), y.2)
  | .ro _ :: r, n, .ro _ _ (some k) :: q => if k = n then takeBP E r (n + 1) q else none
  | .own e :: r, n, d :: q => (takeL E e d).bind fun z => (takeBP E r (n + 1) q).map fun y => ((z.1, y.1), z.2 ++ y.2)
  | .mut e :: r, n, d :: q => (takeL E e d).bind fun z => (takeBP E r (n + 1) q).map fun y => ((z.1, y.1), z.2 ++ y.2)
  | _, _, _ => none
def takeBV (E : Env) : (l : List Cm) → Nat → Option (backVD l × List Nat)
  | [], _ => some ((), [])
  | .b :: r, n => takeBV E r n
  | .i _ :: r, n => takeBV E r n
  | .s :: r, n => takeBV E r n
  | .ro _ :: r, n => takeBV E r (n + 1)
  | .own _ :: r, n => takeBV E r (n + 1)
  | .mut e :: r, n => (takeL E e (.sref n none)).bind fun z => (takeBV E r (n + 1)).map fun y => ((z.1, y.1), z.2 ++ y.2)
/-- How many numbers an item takes. -/
def cmN : List Cm → Nat → Nat
  | [], n => n
  | .b :: r, n => cmN r n
  | .i _ :: r, n => cmN r n
  | .s :: r, n => cmN r n
  | .ro _ :: r, n => cmN r (n + 1)
  | .own _ :: r, n => cmN r (n + 1)
  | .mut _ :: r, n => cmN r (n + 1)
def itN : Item → Nat → Nat
  | ⟨false, _, cs⟩, n => cmN cs n
  | ⟨true, _, cs⟩, n => cmN cs (n + 1)
def takeBI (E : Env) : (it : Item) → Nat → Option (backID it × List Nat)
  | ⟨false, _, cs⟩, n => takeBV E cs n
  | ⟨true, _, cs⟩, n =>
    match E n with
    | some (.var l) => (takeBP E cs (n + 1) l).map fun y => (y.1, n :: y.2)
    | _ => none
def takeBs (E : Env) : (l : List Item) → Nat → Option (backD l × List Nat)
  | [], _ => some ((), [])
  | it :: r, n => (takeBI E it n).bind fun x => (takeBs E r (itN it n)).map fun y => ((x.1, y.1), x.2 ++ y.2)

/-! ## What comes back, where it was called -/
def backP : (l : List Cm) → List DVal → backPD l → Nat → List DVal × List (Nat × DVar) × Nat
  | .b :: r, _ :: q, x, n => (.b x.1 :: (backP r q x.2 n).1, (backP r q x.2 n).2)
  | .i k :: r, _ :: q, x, n => (.i k x.1 :: (backP r q x.2 n).1, (backP r q x.2 n).2)
  | .s :: r, _ :: q, x, n => (.s x.1 :: (backP r q x.2 n).1, (backP r q x.2 n).2)
  | .ro _ :: r, d :: q, x, n => (d :: (backP r q x n).1, (backP r q x n).2)
  | .own e :: r, _ :: q, x, n => (.sref n none :: (backP r q x.2 (n + 1)).1, (n, .arr e x.1) :: (backP r q x.2 (n + 1)).2.1, (backP r q x.2 (n + 1)).2.2)
  | .mut e :: r, _ :: q, x, n => (.sref n none :: (backP r q x.2 (n + 1)).1, (n, .arr e x.1) :: (backP r q x.2 (n + 1)).2.1, (backP r q x.2 (n + 1)).2.2)
  | _, _, _, n => ([], [], n)
def backV : (l : List Cm) → List DVal → backVD l → List (Nat × DVar)
  | .b :: r, _ :: q, x => backV r q x
  | .i _ :: r, _ :: q, x => backV r q x
  | .s :: r, _ :: q, x => backV r q x
  | .ro _ :: r, _ :: q, x => backV r q x
  | .own _ :: r, _ :: q, x => backV r q x
  | .mut e :: r, .sref id none :: q, x => (id, .arr e x.1) :: backV r q x.2
  | .mut _ :: r, _ :: q, x => backV r q x.2
  | _, _, _ => []
def backI (E : Env) : (it : Item) → DVal → backID it → Nat → List (Nat × DVar) × Nat
  | ⟨false, _, cs⟩, d, x, n => (backV cs d.cells x, n)
  | ⟨true, _, cs⟩, .vptr id off, x, n =>
    match E id with
    | some (.var l) => ((backP cs ((l.drop off).take cs.length) x n).2.1 ++ [(id, .var (spliceL l off (backP cs ((l.drop off).take cs.length) x n).1))], (backP cs ((l.drop off).take cs.length) x n).2.2)
    | _ => ([], n)
  | ⟨true, _, _⟩, _, _, n => ([], n)
def backIs (E : Env) : (l : List Item) → List DVal → backD l → Nat → List (Nat × DVar) × Nat
  | it :: r, d :: q, x, n => ((backI E it d x.1 n).1 ++ (backIs E r q x.2 (backI E it d x.1 n).2).1, (backIs E r q x.2 (backI E it d x.1 n).2).2)
  | _, _, _, n => ([], n)

/-- What is told of a function. -/
structure Con where
  f : Nat
  lend : Bool
  its : List Item
  lay : Lay
  rs : List Item
  F : itemsD its → Out (itemsD rs × backD its)

def resV : List DVal → DVal
  | [d] => d
  | ds => .tup ds
def lessE (E : Env) (ids : List Nat) : Env := fun id => if ids.contains id = true then none else E id
def noEnv : Env := fun _ => none
def roFree (l : List Item) : Bool := l.all fun it => it.cs.all fun c => match c with | .ro _ => false | _ => true

/-- A call, by what is told. -/
def after (K : Con) (E : Env) (ds : List DVal) (ids : List Nat) (fr : Nat) (y : itemsD K.rs × backD K.its) : Out Res :=
  let bk := backIs E K.its ds y.2 fr
  let en := enterIs false K.rs y.1 bk.2
  if en.2.2 ≤ fr + 64 then .ret (resV en.1, (ids.map fun k => (k, none)) ++ news (bk.1 ++ en.2.1)) else .fail
def lendE (K : Con) (E : Env) (ds : List DVal) : Env :=
  if K.lend = true then
    match takeIs E E K.its ds with
    | some x => lessE E x.2
    | none => noEnv
  else noEnv
def Con.call (K : Con) (ds : List DVal) (E : Env) (fr : Nat) : Option (Out Res) :=
  (unlay K.lay ds).bind fun is => (takeIs E (lendE K E is) K.its is).bind fun x =>
    if nodupB x.2 = true ∧ (K.lend = false ∨ (roFree K.rs = true ∧ x.2.all (fun id => (lendE K E is id).isNone) = true)) then some ((K.F x.1).bind (after K E is x.2 fr)) else none

/-- The first of those told that fits. -/
def callL : List Con → Nat → List DVal → Env → Nat → Out Res
  | [], _, _, _, _ => .fail
  | K :: r, f, ds, E, fr => if K.f = f then
      match K.call ds E fr with
      | some o => o
      | none => callL r f ds E fr
    else callL r f ds E fr

/-! ## A function's body -/
def entry (its : List Item) (lay : Lay) (ntmps : Nat) (x : itemsD its) : DSt :=
  let en := enterIs true its x 0
  { t := layD lay en.1 ++ List.replicate (ntmps - (layD lay en.1).length) .undef, v := updV [] (news en.2.1), k := [0], kn := [] }
/-- A result that the function returns. -/
def resD (C : Cx) (s : DSt) : ResultVar → Option DVal
  | .tmp j => some (s.t.getD j .dead)
  | .cell a t =>
    match s.t.getD a .dead with
    | .vptr id off =>
      match lookV s.v id with
      | some (.var cs) => (C.ty t).bind fun ty => if off + ty.size ≤ cs.length then some (mkVal ty ((cs.drop off).take ty.size)) else none
      | _ => none
    | _ => none
def resDs (C : Cx) (s : DSt) : List ResultVar → Option (List DVal)
  | [] => some []
  | r :: l => (resD C s r).bind fun d => (resDs C s l).map fun ds => d :: ds
def leave (C : Cx) (its rs : List Item) (rtm : List ResultVar) (s : DSt) : Option (itemsD rs × backD its) :=
  (resDs C s rtm).bind fun ds => (takeIs (lookV s.v) noEnv rs ds).bind fun y => (takeBs (lookV s.v) its 0).bind fun z =>
    if nodupB (y.2 ++ z.2) = true then some (y.1, z.1) else none
def bodyOut (C : Cx) (A : Nat → Option LoopAnn) (code : Code) (its : List Item) (lay : Lay) (ntmps : Nat) (rs : List Item) (rtm : List ResultVar) (x : itemsD its) : Out (itemsD rs × backD its) :=
  (dexec C A code (entry its lay ntmps x)).bind fun r =>
    match r.1 with
    | .exit _ => .fail
    | _ => .of (leave C its rs rtm r.2) .ret
end Go.Proofs.Ytjcinikojcfebaa.Dm
