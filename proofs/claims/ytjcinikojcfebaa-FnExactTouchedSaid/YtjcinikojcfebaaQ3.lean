/- Functions of the program, and what they compute. -/
import Derived.Test.YtjcinikojcfebaaQ2
import Derived.Test.YtjcinikojcfebaaSo
import Derived.Test.YtjcinikojcfebaaShelf
namespace Go.Proofs.Ytjcinikojcfebaa.Dm
open Go Go.ChangeShapes Go.WideShapes Go.ChangeAt Go.RowKit

/-! ## Sets as lists that rise -/
def hasV (a : List Int) (x : Int) : Bool := a.any fun y => decide (y = x)
theorem hasV_iff {a : List Int} {x : Int} : hasV a x = true ↔ x ∈ a := by simp [hasV]
abbrev f183_S0 := (List (Int) × Int × Int × Unit) × (Unit)
def f183_L0 (x : f183_S0) : Out (Round f183_S0 ((Unit) × (Unit)) ((Bool × Unit) × (Unit))) :=
 .ite (decide (x.1.2.2.1 < ((List.length x.1.1 : Nat) : Int)))
 (.ite (decide (0 ≤ x.1.2.2.1))
 (.get (nth x.1.1 (Int.toNat x.1.2.2.1)) fun y1 =>
 .ite ((y1 == x.1.2.1))
 (.ret (.ret ((true, ()), ())))
 (.ret (.again ((x.1.1, x.1.2.1, (IntKind.i64.wrap (x.1.2.2.1 + (1 : Int))), ()), ()))))
 .fail)
 (.ret (.out ((), ())))
def f183_tree (a0 : List Int) (a1 : Int) : Out (((Bool × Unit) × Unit) × (Unit × Unit × Unit)) :=
 .get (iter f183_L0 FUEL ((a0, a1, (0 : Int), ()), ())) fun y1 => .alt y1 (fun y2 =>
 .ret (((false, ()), ()), ((), (), ()))) (fun y3 =>
 .ret (((y3.1.1, ()), ()), ((), (), ())))
def f183_A : Nat → Option LoopAnn := fun n => annOf [(0, { head := { t := [.ro (.int .i64) (some 0), .i .i64, .dead, .dead, .dead, .i .i64, .dead, .dead, .dead, .dead, .dead, .dead, .dead, .dead, .dead, .dead, .dead, .dead], v := [] }, out := { t := [.dead, .dead, .dead, .dead, .dead, .dead, .dead, .dead, .dead, .dead, .dead, .dead, .dead, .dead, .dead, .dead, .dead, .dead], v := [] }, ret := some { t := [.dead, .dead, .dead, .dead, .b, .dead, .dead, .dead, .dead, .dead, .dead, .dead, .dead, .dead, .dead, .dead, .dead, .dead], v := [] } })] n
def k183 : Con := { f := 183, lend := true, its := [⟨false, false, [.ro (.int .i64)]⟩, ⟨false, false, [.i .i64]⟩], lay := [none, none], rs := [⟨false, false, [.b]⟩], F := fun x => .ret ((((hasV x.1.1 x.2.1.1), ()), ()), ((), (), ())) }
theorem f183_eq (x : itemsD k183.its) : bodyOut (cxOf []) (f183_A) (codeOf Try.f183) k183.its k183.lay Try.f183.ntmps k183.rs [.tmp 4] x = f183_tree x.1.1 x.2.1.1 := by kernel_rfl
theorem f183_ok (hr : ∀ x : (List Int × Unit) × (Int × Unit) × Unit, itemsWF k183.its x → (f183_tree x.1.1 x.2.1.1).eval = (k183.F x).eval) : k183.Ok Try.prog :=
  con_fn [] trivial (by kernel_rfl) (codeOf_eq (by kernel_rfl)) (by kernel_rfl) (by kernel_rfl) (by kernel_rfl) f183_eq fun x hw _ hy => (hr x hw).trans hy
theorem k183_ok : k183.Ok Try.prog := by
  refine f183_ok fun x hw => ?_
  obtain ⟨⟨a, _⟩, ⟨v, _⟩, _⟩ := x
  have ha : a.length ≤ BIG := hw.1.1.1
  show (f183_tree a v).eval = some (((hasV a v, ()), ()), ((), ((), ())))
  unfold f183_tree
  have := any_loop (f := f183_L0) a (fun y => decide (y = v)) (fun i => ((a, (v, (((i : Nat) : Int), ()))), ())) (y := ((), ())) (z := ((true, ()), ()))
    (fun i hi => by
      have h1 := wrap_succ (i := i) (by omega)
      by_cases q : a[i] = v <;> simp [f183_L0, Out.eval, hi, h1, q, cond_eq_ite])
    (by simp [f183_L0, Out.eval]) ha
  refine (eval_get_some this).trans ?_
  unfold hasV
  cases a.any fun y => decide (y = v) <;> rfl
def putL (x : Int) : List Int → List Int
  | [] => [x]
  | y :: r => if x < y then x :: y :: r else y :: putL x r
theorem putL_len (x : Int) : ∀ a : List Int, (putL x a).length = a.length + 1
  | [] => rfl
  | y :: r => by
    unfold putL
    split
    · simp
    · simp [putL_len x r]
theorem mem_putL {x z : Int} : ∀ {a : List Int}, z ∈ putL x a ↔ z = x ∨ z ∈ a
  | [] => by simp [putL]
  | y :: r => by
    unfold putL
    split
    · simp
    · rw [List.mem_cons, mem_putL, List.mem_cons]
      constructor
      · rintro (h | h | h) <;> simp [h]
      · rintro (h | h | h) <;> simp [h]
theorem putL_sorted {x : Int} : ∀ {a : List Int}, a.Pairwise (· < ·) → x ∉ a → (putL x a).Pairwise (· < ·)
  | [], _, _ => by simp [putL]
  | y :: r, h, hx => by
    obtain ⟨h1, h2⟩ := List.pairwise_cons.1 h
    unfold putL
    split
    · rename_i q
      refine List.pairwise_cons.2 ⟨fun z hz => ?_, h⟩
      rcases List.mem_cons.1 hz with rfl | hz
      · exact q
      · exact Int.lt_trans q (h1 z hz)
    · rename_i q
      refine List.pairwise_cons.2 ⟨fun z hz => ?_, putL_sorted h2 fun hm => hx (List.mem_cons_of_mem _ hm)⟩
      rcases mem_putL.1 hz with rfl | hz
      · have : y ≠ z := fun e => hx (by simp [e])
        omega
      · exact h1 z hz
def putStep (x : Int) (p : Bool × List Int) (y : Int) : Bool × List Int := if p.1 = false ∧ x < y then (true, p.2 ++ [x] ++ [y]) else (p.1, p.2 ++ [y])
theorem putStep_true (x : Int) : ∀ (r p : List Int), r.foldl (putStep x) (true, p) = (true, p ++ r)
  | [], p => by simp
  | y :: r, p => by
    rw [List.foldl_cons]
    have : putStep x (true, p) y = (true, p ++ [y]) := by simp [putStep]
    rw [this, putStep_true x r]; simp
theorem putStep_false (x : Int) : ∀ (r p : List Int), (if (r.foldl (putStep x) (false, p)).1 = true then (r.foldl (putStep x) (false, p)).2 else (r.foldl (putStep x) (false, p)).2 ++ [x]) = p ++ putL x r
  | [], p => by simp [putL]
  | y :: r, p => by
    rw [List.foldl_cons]
    by_cases q : x < y
    · have : putStep x (false, p) y = (true, p ++ [x] ++ [y]) := by simp [putStep, q]
      rw [this, putStep_true x r, if_pos rfl]
      simp [putL, q]
    · have : putStep x (false, p) y = (false, p ++ [y]) := by simp [putStep, q]
      rw [this, putStep_false x r]
      simp [putL, q]
def putV (a : List Int) (x : Int) : Option (List Int) := if a.length ≤ 1048576 then some (putL x a) else none
abbrev f184_S0 := (List (Int) × Int × Bool × Int × Unit) × (List (Int) × Unit)
def f184_L0 (x : f184_S0) : Out (Round f184_S0 ((Int × Bool × Unit) × (List (Int) × Unit)) Empty) :=
 .ite (decide (x.1.2.2.2.1 < ((List.length x.1.1 : Nat) : Int)))
 (.ite ((!x.1.2.2.1) == true)
 (.ite (decide (0 ≤ x.1.2.2.2.1))
 (.get (nth x.1.1 (Int.toNat x.1.2.2.2.1)) fun y1 =>
 .ite (decide (x.1.2.1 < y1))
 (.ite (decide (List.length x.2.1 + List.length ([x.1.2.1] : List (Int)) ≤ LIM))
 (.ite (decide (0 ≤ x.1.2.2.2.1))
 (.get (nth x.1.1 (Int.toNat x.1.2.2.2.1)) fun y2 =>
 .ite (decide (List.length (x.2.1 ++ ([x.1.2.1] : List (Int))) + List.length ([y2] : List (Int)) ≤ LIM))
 (.ret (.again ((x.1.1, x.1.2.1, true, (IntKind.i64.wrap (x.1.2.2.2.1 + (1 : Int))), ()), (((x.2.1 ++ ([x.1.2.1] : List (Int))) ++ ([y2] : List (Int))), ()))))
 .fail)
 .fail)
 .fail)
 (.ite (decide (0 ≤ x.1.2.2.2.1))
 (.get (nth x.1.1 (Int.toNat x.1.2.2.2.1)) fun y3 =>
 .ite (decide (List.length x.2.1 + List.length ([y3] : List (Int)) ≤ LIM))
 (.ret (.again ((x.1.1, x.1.2.1, x.1.2.2.1, (IntKind.i64.wrap (x.1.2.2.2.1 + (1 : Int))), ()), ((x.2.1 ++ ([y3] : List (Int))), ()))))
 .fail)
 .fail))
 .fail)
 (.ite (decide (0 ≤ x.1.2.2.2.1))
 (.get (nth x.1.1 (Int.toNat x.1.2.2.2.1)) fun y4 =>
 .ite (decide (List.length x.2.1 + List.length ([y4] : List (Int)) ≤ LIM))
 (.ret (.again ((x.1.1, x.1.2.1, x.1.2.2.1, (IntKind.i64.wrap (x.1.2.2.2.1 + (1 : Int))), ()), ((x.2.1 ++ ([y4] : List (Int))), ()))))
 .fail)
 .fail))
 (.ret (.out ((x.1.2.1, x.1.2.2.1, ()), (x.2.1, ()))))
def f184_tree (a0 : List Int) (a1 : Int) : Out (((List Int × Unit) × Unit) × (Unit × Unit × Unit)) :=
 .get (iter1 f184_L0 FUEL ((a0, a1, false, (0 : Int), ()), (([] : List (Int)), ()))) fun y1 =>
 .ite (!y1.1.2.1)
 (.ite (decide (List.length y1.2.1 + List.length ([y1.1.1] : List (Int)) ≤ LIM))
 (.ret ((((y1.2.1 ++ ([y1.1.1] : List (Int))), ()), ()), ((), (), ())))
 .fail)
 (.ret (((y1.2.1, ()), ()), ((), (), ())))
def f184_A : Nat → Option LoopAnn := fun n => annOf [(0, { head := { t := [.ro (.int .i64) (some 0), .i .i64, .dead, .dead, .dead, .srf 64000000, .b, .i .i64, .dead, .dead, .dead, .dead, .dead, .dead, .dead, .dead, .dead, .dead, .dead, .dead, .dead, .dead, .dead, .dead, .dead, .dead, .dead, .dead, .dead, .dead, .dead, .dead, .dead, .dead, .dead, .dead, .dead, .dead, .dead, .dead, .dead, .dead, .dead], v := [(64000000, .arr (.int .i64))] }, out := { t := [.dead, .i .i64, .dead, .dead, .dead, .srf 64000256, .b, .dead, .dead, .dead, .dead, .dead, .dead, .dead, .dead, .dead, .dead, .dead, .dead, .dead, .dead, .dead, .dead, .dead, .dead, .dead, .dead, .dead, .dead, .dead, .dead, .dead, .dead, .dead, .dead, .dead, .dead, .dead, .dead, .dead, .dead, .dead, .dead], v := [(64000256, .arr (.int .i64))] }, ret := none })] n
def k184 : Con := { f := 184, lend := true, its := [⟨false, false, [.ro (.int .i64)]⟩, ⟨false, false, [.i .i64]⟩], lay := [none, none], rs := [⟨false, false, [.own (.int .i64)]⟩], F := fun x => .get (putV x.1.1 x.2.1.1) fun y => .ret (((y, ()), ()), ((), (), ())) }
theorem f184_eq (x : itemsD k184.its) : bodyOut (cxOf []) (f184_A) (codeOf Try.f184) k184.its k184.lay Try.f184.ntmps k184.rs [.tmp 4] x = f184_tree x.1.1 x.2.1.1 := by kernel_rfl
theorem f184_okp (hr : ∀ x : (List Int × Unit) × (Int × Unit) × Unit, itemsWF k184.its x → ∀ y, (k184.F x).eval = some y → (f184_tree x.1.1 x.2.1.1).eval = some y) : k184.Ok Try.prog :=
  con_fn [] trivial (by kernel_rfl) (codeOf_eq (by kernel_rfl)) (by kernel_rfl) (by kernel_rfl) (by kernel_rfl) f184_eq hr
theorem k184_ok : k184.Ok Try.prog := by
  refine f184_okp fun x hw y hy => ?_
  obtain ⟨⟨a, _⟩, ⟨v, _⟩, _⟩ := x
  have ha : a.length ≤ BIG := hw.1.1.1
  change (Out.get (putV a v) fun y => Out.ret (((y, ()), ()), ((), ((), ())))).eval = some y at hy
  unfold putV at hy
  split at hy
  case isFalse => exact nomatch hy
  rename_i hl
  refine Eq.trans ?_ hy
  show (f184_tree a v).eval = _
  unfold f184_tree
  have := foldl_loop (f := f184_L0) a (putStep v) (fun i p => p.2.length ≤ 2 * i) (fun p i => ((a, (v, (p.1, (((i : Nat) : Int), ())))), (p.2, ()))) (fun p => ((v, (p.1, ())), (p.2, ())))
    (fun i hi p hp => by
      unfold putStep
      split <;> simp <;> omega)
    (fun i hi p hp => by
      have h1 := wrap_succ (i := i) (by omega)
      obtain ⟨b, p⟩ := p
      simp only at hp
      have g1 : decide (p.length + ([v] : List Int).length ≤ LIM) = true := decide_eq_true (by rw [LIM_eq]; simp; omega)
      have g2 : decide ((p ++ ([v] : List Int)).length + ([a[i]] : List Int).length ≤ LIM) = true := decide_eq_true (by rw [LIM_eq]; simp; omega)
      have g3 : decide (p.length + ([a[i]] : List Int).length ≤ LIM) = true := decide_eq_true (by rw [LIM_eq]; simp; omega)
      have n1 : nth a i = some a[i] := List.getElem?_eq_getElem hi
      unfold f184_L0 putStep
      simp only [lt_t hi, ge0, Int.toNat_natCast, h1]
      cases b <;> by_cases q : v < a[i] <;> simp [Out.eval, n1, g1, g2, g3, q] <;> simp at g1 g2 g3 <;> simp [Out.eval, g1, g2, g3])
    (fun p _ => by simp [f184_L0, Out.eval]) ha (d := (false, [])) (by simp)
  refine (eval_get_some this).trans ?_
  have hb : ∀ p : Bool × List Int, p.2.length ≤ 2 * a.length → (Out.ite (!p.1) (Out.ite (decide (List.length p.2 + List.length ([v] : List Int) ≤ LIM)) (Out.ret ((((p.2 ++ ([v] : List Int)), ()), ()), ((), (), ()))) Out.fail) (Out.ret (((p.2, ()), ()), ((), (), ())))).eval = some ((((if p.1 = true then p.2 else p.2 ++ [v]), ()), ()), ((), (), ())) := by
    intro p hp
    obtain ⟨b, p⟩ := p
    cases b with
    | true => rfl
    | false =>
      refine (eval_ite_t rfl).trans ((eval_ite_t (decide_eq_true (by rw [LIM_eq]; simp at hp ⊢; omega))).trans ?_)
      rfl
  have hlen : ∀ (r : List Int) (p : Bool × List Int), (r.foldl (putStep v) p).2.length ≤ p.2.length + 2 * r.length := by
    intro r
    induction r with
    | nil => intro p; simp
    | cons y r ih =>
      intro p
      rw [List.foldl_cons]
      refine Nat.le_trans (ih _) ?_
      unfold putStep
      split <;> simp <;> omega
  refine (hb _ (by simpa using hlen a (false, []))).trans ?_
  have := putStep_false v a []
  rw [this]; rfl
def tkV (k : Int) : Bool := k == 1 || k == 2 || k == 4 || k == 5 || k == 6 || k == 7 || k == 8 || k == 9
def insV (l : List Int) (x : Int) : List Int := if hasV l x = true then l else putL x l
def tstep (l : List Int) (e : EffD) : List Int := if tkV e.1 = true then insV l e.2.1 else l
def touchedV (a : List EffD) : Option (List Int) := if a.length ≤ 1048576 then some (a.foldl tstep []) else none
theorem insV_len (l : List Int) (x : Int) : (insV l x).length ≤ l.length + 1 := by
  unfold insV; split
  · omega
  · rw [putL_len]; omega
theorem tstep_len (l : List Int) (e : EffD) : (tstep l e).length ≤ l.length + 1 := by
  unfold tstep; split
  · exact insV_len _ _
  · omega
abbrev f97_S0 := (List ((Int × Int × Int × Int × List Int × Unit)) × Int × Unit) × (List (Int) × Unit)
def f97_L0 (x : f97_S0) : Out (Round f97_S0 ((Unit) × (List (Int) × Unit)) Empty) :=
 .ite (decide (x.1.2.1 < ((List.length x.1.1 : Nat) : Int)))
 (.ite (decide (0 ≤ x.1.2.1))
 (.get (nth x.1.1 (Int.toNat x.1.2.1)) fun y1 =>
 .ite ((y1.1 == (1 : Int)))
 (.ite (decide (0 ≤ x.1.2.1))
 (.get (nth x.1.1 (Int.toNat x.1.2.1)) fun y2 =>
 .ite (!(hasV x.2.1 y2.2.1))
 (.ite (decide (0 ≤ x.1.2.1))
 (.get (nth x.1.1 (Int.toNat x.1.2.1)) fun y3 =>
 .get (putV x.2.1 y3.2.1) fun y4 =>
 .ret (.again ((x.1.1, (IntKind.i64.wrap (x.1.2.1 + (1 : Int))), ()), (y4, ()))))
 .fail)
 (.ret (.again ((x.1.1, (IntKind.i64.wrap (x.1.2.1 + (1 : Int))), ()), (x.2.1, ())))))
 .fail)
 (.ite ((y1.1 == (2 : Int)))
 (.ite (decide (0 ≤ x.1.2.1))
 (.get (nth x.1.1 (Int.toNat x.1.2.1)) fun y5 =>
 .ite (!(hasV x.2.1 y5.2.1))
 (.ite (decide (0 ≤ x.1.2.1))
 (.get (nth x.1.1 (Int.toNat x.1.2.1)) fun y6 =>
 .get (putV x.2.1 y6.2.1) fun y7 =>
 .ret (.again ((x.1.1, (IntKind.i64.wrap (x.1.2.1 + (1 : Int))), ()), (y7, ()))))
 .fail)
 (.ret (.again ((x.1.1, (IntKind.i64.wrap (x.1.2.1 + (1 : Int))), ()), (x.2.1, ())))))
 .fail)
 (.ite ((y1.1 == (4 : Int)))
 (.ite (decide (0 ≤ x.1.2.1))
 (.get (nth x.1.1 (Int.toNat x.1.2.1)) fun y8 =>
 .ite (!(hasV x.2.1 y8.2.1))
 (.ite (decide (0 ≤ x.1.2.1))
 (.get (nth x.1.1 (Int.toNat x.1.2.1)) fun y9 =>
 .get (putV x.2.1 y9.2.1) fun y10 =>
 .ret (.again ((x.1.1, (IntKind.i64.wrap (x.1.2.1 + (1 : Int))), ()), (y10, ()))))
 .fail)
 (.ret (.again ((x.1.1, (IntKind.i64.wrap (x.1.2.1 + (1 : Int))), ()), (x.2.1, ())))))
 .fail)
 (.ite ((y1.1 == (5 : Int)))
 (.ite (decide (0 ≤ x.1.2.1))
 (.get (nth x.1.1 (Int.toNat x.1.2.1)) fun y11 =>
 .ite (!(hasV x.2.1 y11.2.1))
 (.ite (decide (0 ≤ x.1.2.1))
 (.get (nth x.1.1 (Int.toNat x.1.2.1)) fun y12 =>
 .get (putV x.2.1 y12.2.1) fun y13 =>
 .ret (.again ((x.1.1, (IntKind.i64.wrap (x.1.2.1 + (1 : Int))), ()), (y13, ()))))
 .fail)
 (.ret (.again ((x.1.1, (IntKind.i64.wrap (x.1.2.1 + (1 : Int))), ()), (x.2.1, ())))))
 .fail)
 (.ite ((y1.1 == (6 : Int)))
 (.ite (decide (0 ≤ x.1.2.1))
 (.get (nth x.1.1 (Int.toNat x.1.2.1)) fun y14 =>
 .ite (!(hasV x.2.1 y14.2.1))
 (.ite (decide (0 ≤ x.1.2.1))
 (.get (nth x.1.1 (Int.toNat x.1.2.1)) fun y15 =>
 .get (putV x.2.1 y15.2.1) fun y16 =>
 .ret (.again ((x.1.1, (IntKind.i64.wrap (x.1.2.1 + (1 : Int))), ()), (y16, ()))))
 .fail)
 (.ret (.again ((x.1.1, (IntKind.i64.wrap (x.1.2.1 + (1 : Int))), ()), (x.2.1, ())))))
 .fail)
 (.ite ((y1.1 == (7 : Int)))
 (.ite (decide (0 ≤ x.1.2.1))
 (.get (nth x.1.1 (Int.toNat x.1.2.1)) fun y17 =>
 .ite (!(hasV x.2.1 y17.2.1))
 (.ite (decide (0 ≤ x.1.2.1))
 (.get (nth x.1.1 (Int.toNat x.1.2.1)) fun y18 =>
 .get (putV x.2.1 y18.2.1) fun y19 =>
 .ret (.again ((x.1.1, (IntKind.i64.wrap (x.1.2.1 + (1 : Int))), ()), (y19, ()))))
 .fail)
 (.ret (.again ((x.1.1, (IntKind.i64.wrap (x.1.2.1 + (1 : Int))), ()), (x.2.1, ())))))
 .fail)
 (.ite ((y1.1 == (8 : Int)))
 (.ite (decide (0 ≤ x.1.2.1))
 (.get (nth x.1.1 (Int.toNat x.1.2.1)) fun y20 =>
 .ite (!(hasV x.2.1 y20.2.1))
 (.ite (decide (0 ≤ x.1.2.1))
 (.get (nth x.1.1 (Int.toNat x.1.2.1)) fun y21 =>
 .get (putV x.2.1 y21.2.1) fun y22 =>
 .ret (.again ((x.1.1, (IntKind.i64.wrap (x.1.2.1 + (1 : Int))), ()), (y22, ()))))
 .fail)
 (.ret (.again ((x.1.1, (IntKind.i64.wrap (x.1.2.1 + (1 : Int))), ()), (x.2.1, ())))))
 .fail)
 (.ite ((y1.1 == (9 : Int)))
 (.ite (decide (0 ≤ x.1.2.1))
 (.get (nth x.1.1 (Int.toNat x.1.2.1)) fun y23 =>
 .ite (!(hasV x.2.1 y23.2.1))
 (.ite (decide (0 ≤ x.1.2.1))
 (.get (nth x.1.1 (Int.toNat x.1.2.1)) fun y24 =>
 .get (putV x.2.1 y24.2.1) fun y25 =>
 .ret (.again ((x.1.1, (IntKind.i64.wrap (x.1.2.1 + (1 : Int))), ()), (y25, ()))))
 .fail)
 (.ret (.again ((x.1.1, (IntKind.i64.wrap (x.1.2.1 + (1 : Int))), ()), (x.2.1, ())))))
 .fail)
 (.ret (.again ((x.1.1, (IntKind.i64.wrap (x.1.2.1 + (1 : Int))), ()), (x.2.1, ()))))))))))))
 .fail)
 (.ret (.out ((), (x.2.1, ()))))
def f97_tree (a0 : List (Int × Int × Int × Int × List Int × Unit)) : Out (((List Int × Unit) × Unit) × (Unit × Unit)) :=
 .get (iter1 f97_L0 FUEL ((a0, (0 : Int), ()), (([] : List (Int)), ()))) fun y1 =>
 .ret (((y1.2.1, ()), ()), ((), ()))
def f97_A : Nat → Option LoopAnn := fun n => annOf [(0, { head := { t := [.ro (.st (.cons (.int .i64) (.cons (.int .i64) (.cons (.int .i64) (.cons (.int .i64) (.cons (.sl (.int .i64)) .nil)))))) (some 0), .dead, .dead, .srf 64000000, .i .i64, .dead, .dead, .dead, .dead, .dead, .dead, .dead, .dead, .dead, .dead, .dead, .dead, .dead, .dead, .dead, .dead, .dead, .dead, .dead, .dead, .dead, .dead, .dead, .dead, .dead, .dead, .dead, .dead, .dead, .dead, .dead, .dead, .dead, .dead, .dead, .dead, .dead], v := [(64000000, .arr (.int .i64))] }, out := { t := [.dead, .dead, .dead, .srf 64000256, .dead, .dead, .dead, .dead, .dead, .dead, .dead, .dead, .dead, .dead, .dead, .dead, .dead, .dead, .dead, .dead, .dead, .dead, .dead, .dead, .dead, .dead, .dead, .dead, .dead, .dead, .dead, .dead, .dead, .dead, .dead, .dead, .dead, .dead, .dead, .dead, .dead, .dead], v := [(64000256, .arr (.int .i64))] }, ret := none })] n
def k97 : Con := { f := 97, lend := true, its := [⟨false, false, [.ro (.st (.cons (.int .i64) (.cons (.int .i64) (.cons (.int .i64) (.cons (.int .i64) (.cons (.sl (.int .i64)) .nil))))))]⟩], lay := [none], rs := [⟨false, false, [.own (.int .i64)]⟩], F := fun x => .get (touchedV x.1.1) fun y => .ret (((y, ()), ()), ((), ())) }
theorem f97_eq (x : itemsD k97.its) : bodyOut (cxOf [k183, k184]) (f97_A) (codeOf Try.f97) k97.its k97.lay Try.f97.ntmps k97.rs [.tmp 2] x = f97_tree x.1.1 := by kernel_rfl
theorem f97_okp (hr : ∀ x : (List (Int × Int × Int × Int × List Int × Unit) × Unit) × Unit, itemsWF k97.its x → ∀ y, (k97.F x).eval = some y → (f97_tree x.1.1).eval = some y) : k97.Ok Try.prog :=
  con_fn [k183, k184] ⟨k183_ok, k184_ok, trivial⟩ (by kernel_rfl) (codeOf_eq (by kernel_rfl)) (by kernel_rfl) (by kernel_rfl) (by kernel_rfl) f97_eq hr
theorem k97_ok : k97.Ok Try.prog := by
  refine f97_okp fun x hw y hy => ?_
  obtain ⟨⟨a, _⟩, _⟩ := x
  have ha : a.length ≤ BIG := hw.1.1.1
  change (Out.get (touchedV a) fun y => Out.ret (((y, ()), ()), ((), ()))).eval = some y at hy
  unfold touchedV at hy
  split at hy
  case isFalse => exact nomatch hy
  rename_i hl
  refine Eq.trans ?_ hy
  show (f97_tree a).eval = _
  unfold f97_tree
  have := foldl_loop (f := f97_L0) a tstep (fun i p => p.length ≤ i) (fun p i => ((a, (((i : Nat) : Int), ())), (p, ()))) (fun p => ((), (p, ())))
    (fun i hi p hp => by have := tstep_len p a[i]; omega)
    (fun i hi p hp => by
      have h1 := wrap_succ (i := i) (by omega)
      have n1 : nth a i = some a[i] := List.getElem?_eq_getElem hi
      have n2 : putV p a[i].2.1 = some (putL a[i].2.1 p) := if_pos (by omega)
      unfold f97_L0 tstep insV tkV
      simp only [lt_t hi, ge0, Int.toNat_natCast, h1, n1, n2]
      by_cases q1 : a[i].1 = 1
      · cases q : hasV p a[i].2.1 <;> simp [Out.eval, q1, q, n2]
      by_cases q2 : a[i].1 = 2
      · cases q : hasV p a[i].2.1 <;> simp [Out.eval, q2, q, n2]
      by_cases q3 : a[i].1 = 4
      · cases q : hasV p a[i].2.1 <;> simp [Out.eval, q3, q, n2]
      by_cases q4 : a[i].1 = 5
      · cases q : hasV p a[i].2.1 <;> simp [Out.eval, q4, q, n2]
      by_cases q5 : a[i].1 = 6
      · cases q : hasV p a[i].2.1 <;> simp [Out.eval, q5, q, n2]
      by_cases q6 : a[i].1 = 7
      · cases q : hasV p a[i].2.1 <;> simp [Out.eval, q6, q, n2]
      by_cases q7 : a[i].1 = 8
      · cases q : hasV p a[i].2.1 <;> simp [Out.eval, q7, q, n2]
      by_cases q8 : a[i].1 = 9
      · cases q : hasV p a[i].2.1 <;> simp [Out.eval, q8, q, n2]
      simp [Out.eval, q1, q2, q3, q4, q5, q6, q7, q8, cond_eq_ite])
    (fun p _ => by simp [f97_L0, Out.eval]) ha (d := []) (by simp)
  refine (eval_get_some this).trans ?_
  rfl
/-! ## Sorted and compact, the same -/
def pickS (p : List Int) (e : EffD) : List Int := if tkV e.1 = true then p ++ [e.2.1] else p
theorem rise_eq : ∀ {a b : List Int}, a.Pairwise (· < ·) → b.Pairwise (· < ·) → (∀ x, x ∈ a ↔ x ∈ b) → a = b
  | [], [], _, _, _ => rfl
  | [], y :: _, _, _, h => absurd ((h y).2 (by simp)) (by simp)
  | x :: _, [], _, _, h => absurd ((h x).1 (by simp)) (by simp)
  | x :: a, y :: b, ha, hb, h => by
    obtain ⟨a1, a2⟩ := List.pairwise_cons.1 ha
    obtain ⟨b1, b2⟩ := List.pairwise_cons.1 hb
    have e : x = y := by
      have h1 := (h x).1 (by simp)
      have h2 := (h y).2 (by simp)
      rcases List.mem_cons.1 h1 with e | h1
      · exact e
      · rcases List.mem_cons.1 h2 with e | h2
        · exact e.symm
        · have := a1 y h2; have := b1 x h1; omega
    subst e
    congr 1
    refine rise_eq a2 b2 fun z => ?_
    constructor
    · intro hz
      have := a1 z hz
      rcases List.mem_cons.1 ((h z).1 (List.mem_cons_of_mem _ hz)) with e | h'
      · omega
      · exact h'
    · intro hz
      have := b1 z hz
      rcases List.mem_cons.1 ((h z).2 (List.mem_cons_of_mem _ hz)) with e | h'
      · omega
      · exact h'
theorem sortV_le (a : List Int) : (sortV a).Pairwise (· ≤ ·) := by
  have := List.pairwise_mergeSort (le := fun x y : Int => decide (x ≤ y)) (fun a b c h1 h2 => by simp at h1 h2 ⊢; omega) (fun a b => by simp; omega) a
  simpa using this
theorem mem_sortV {a : List Int} {x : Int} : x ∈ sortV a ↔ x ∈ a := List.mem_mergeSort
theorem compactV_mem {a : List Int} {x : Int} : x ∈ compactV a ↔ x ∈ a := by
  unfold compactV Go.Lib.compact Go.Lib.compactUpTo
  simp only [List.mem_map, List.mem_filter, List.mem_range]
  constructor
  · rintro ⟨j, ⟨hj, _⟩, rfl⟩
    have hj' : j < a.toArray.size := by simpa using hj
    rw [getElem!_pos a.toArray j hj']
    simp
  · intro hx
    obtain ⟨j, hj, e⟩ := List.getElem_of_mem hx
    obtain ⟨j, ⟨hj, e⟩, hmin⟩ := exists_least (p := fun j => ∃ h : j < a.length, a[j] = x) ⟨j, hj, e⟩
    have hj' : j < a.toArray.size := by simpa using hj
    refine ⟨j, ⟨hj, ?_⟩, by rw [getElem!_pos a.toArray j hj']; simpa using e⟩
    unfold Go.Lib.keeps
    rw [decide_eq_true_iff]
    by_cases h0 : j = 0
    · exact .inl h0
    · refine .inr fun he => ?_
      have hj1 : j - 1 < a.toArray.size := by simp; omega
      rw [getElem!_pos a.toArray j hj', getElem!_pos a.toArray (j - 1) hj1] at he
      have := hmin (j - 1) ⟨by omega, by simp at he; rw [← he]; exact e⟩
      omega
theorem compactV_rise {a : List Int} (h : a.Pairwise (· ≤ ·)) : (compactV a).Pairwise (· < ·) := by
  have hle : ∀ i j, (hij : i ≤ j) → (hj : j < a.length) → a[i]'(by omega) ≤ a[j] := by
    intro i j hij hj
    rcases Nat.lt_or_eq_of_le hij with h1 | h1
    · exact List.pairwise_iff_getElem.1 h i j (by omega) hj h1
    · subst h1; exact Int.le_refl _
  unfold compactV Go.Lib.compact Go.Lib.compactUpTo
  rw [List.pairwise_map]
  have hr : (List.range a.length).Pairwise (· < ·) := List.pairwise_lt_range
  refine List.Pairwise.imp_of_mem (fun {i j} hi hj hij => ?_) (List.Pairwise.filter (Go.Lib.keeps a.toArray) hr)
  obtain ⟨hi1, _⟩ := List.mem_filter.1 hi
  obtain ⟨hj1, hj2⟩ := List.mem_filter.1 hj
  have hi1 := List.mem_range.1 hi1
  have hj1 := List.mem_range.1 hj1
  unfold Go.Lib.keeps at hj2
  rw [decide_eq_true_iff] at hj2
  rw [getElem!_pos a.toArray i (by simpa using hi1), getElem!_pos a.toArray j (by simpa using hj1)]
  rcases hj2 with e | hne
  · omega
  · rw [getElem!_pos a.toArray j (by simpa using hj1), getElem!_pos a.toArray (j - 1) (by simp; omega)] at hne
    simp only [List.getElem_toArray] at hne ⊢
    have q1 := hle i (j - 1) (by omega) (by omega)
    have q2 := hle (j - 1) j (by omega) hj1
    omega
theorem mem_pickS {x : Int} : ∀ (a : List EffD) (p : List Int), x ∈ a.foldl pickS p ↔ x ∈ p ∨ ∃ e ∈ a, tkV e.1 = true ∧ e.2.1 = x
  | [], p => by simp
  | e :: r, p => by
    rw [List.foldl_cons, mem_pickS r]
    unfold pickS
    cases q : tkV e.1 with
    | true =>
      rw [if_pos rfl, List.mem_append, List.mem_singleton]
      simp only [List.mem_cons, exists_eq_or_imp, q, true_and, or_assoc]
      exact or_congr Iff.rfl (or_congr eq_comm Iff.rfl)
    | false => simp [q]
theorem mem_tstep {x : Int} : ∀ (a : List EffD) (p : List Int), x ∈ a.foldl tstep p ↔ x ∈ p ∨ ∃ e ∈ a, tkV e.1 = true ∧ e.2.1 = x
  | [], p => by simp
  | e :: r, p => by
    rw [List.foldl_cons, mem_tstep r]
    unfold tstep insV
    cases q : tkV e.1 with
    | true =>
      rw [if_pos rfl]
      cases q2 : hasV p e.2.1 with
      | true =>
        have hm := hasV_iff.1 q2
        rw [if_pos rfl]
        simp only [List.mem_cons, exists_eq_or_imp]
        constructor
        · rintro (h | h)
          · exact .inl h
          · exact .inr (.inr h)
        · rintro (h | ⟨_, rfl⟩ | h)
          · exact .inl h
          · exact .inl hm
          · exact .inr h
      | false =>
        rw [if_neg (by decide), mem_putL]
        simp only [List.mem_cons, exists_eq_or_imp, q, true_and]
        constructor
        · rintro ((rfl | h) | h)
          · exact .inr (.inl rfl)
          · exact .inl h
          · exact .inr (.inr h)
        · rintro (h | rfl | h)
          · exact .inl (.inr h)
          · exact .inl (.inl rfl)
          · exact .inr h
    | false => simp [q]
theorem tstep_rise : ∀ (a : List EffD) (p : List Int), p.Pairwise (· < ·) → (a.foldl tstep p).Pairwise (· < ·)
  | [], _, h => h
  | e :: r, p, h => by
    rw [List.foldl_cons]
    refine tstep_rise r _ ?_
    unfold tstep insV
    split
    · split
      · exact h
      · rename_i q
        exact putL_sorted h fun hm => q (hasV_iff.2 hm)
    · exact h
theorem touched_same (a : List EffD) : compactV (sortV (a.foldl pickS [])) = a.foldl tstep [] := by
  refine rise_eq (compactV_rise (sortV_le _)) (tstep_rise a [] (by simp)) fun x => ?_
  rw [compactV_mem, mem_sortV, mem_pickS, mem_tstep]
theorem pickS_len : ∀ (a : List EffD) (p : List Int), (a.foldl pickS p).length ≤ p.length + a.length
  | [], p => by simp
  | e :: r, p => by
    rw [List.foldl_cons]
    refine Nat.le_trans (pickS_len r _) ?_
    unfold pickS
    split <;> simp <;> omega
def k186 : Con := { f := 186, lend := true, its := [⟨false, false, [.mut (.int .i64)]⟩], lay := [none], rs := [], F := fun x => .get (sortP x.1.1) fun y => .ret ((), ((y, ()), ())) }
theorem k186_ok : k186.Ok Try.prog := con_sort ⟨⟨_, Try.func186, by kernel_rfl, by kernel_rfl⟩⟩ (fun b o c z w h1 h2 h3 => Try.slices_Sort_int b o c z w h1 h2 h3) fun p c w => Try.slices_Sort_int_none p c w
def k187 : Con := { f := 187, lend := true, its := [⟨false, false, [.own (.int .i64)]⟩], lay := [none], rs := [⟨false, false, [.own (.int .i64)]⟩], F := fun x => .get (compactP x.1.1) fun y => .ret (((y, ()), ()), ((), ())) }
theorem k187_ok : k187.Ok Try.prog := con_compact ⟨⟨_, Try.func187, by kernel_rfl, by kernel_rfl⟩⟩ (fun b o c z w h1 h2 h3 => Try.slices_Compact_int b o c z w h1 h2 h3) fun p c w => Try.slices_Compact_int_empty p c w
abbrev f99_S0 := (List ((Int × Int × Int × Int × List Int × Unit)) × Int × Int × Unit) × (List (Int) × Unit)
def f99_L0 (x : f99_S0) : Out (Round f99_S0 ((Unit) × (List (Int) × Unit)) Empty) :=
 .ite (decide (x.1.2.2.1 < x.1.2.1))
 (.ite (decide (0 ≤ x.1.2.2.1))
 (.get (nth x.1.1 (Int.toNat x.1.2.2.1)) fun y1 =>
 .ite ((y1.1 == (1 : Int)))
 (.ite (decide (List.length x.2.1 + List.length ([y1.2.1] : List (Int)) ≤ LIM))
 (.ret (.again ((x.1.1, x.1.2.1, (IntKind.i64.wrap (x.1.2.2.1 + (1 : Int))), ()), ((x.2.1 ++ ([y1.2.1] : List (Int))), ()))))
 .fail)
 (.ite ((y1.1 == (2 : Int)))
 (.ite (decide (List.length x.2.1 + List.length ([y1.2.1] : List (Int)) ≤ LIM))
 (.ret (.again ((x.1.1, x.1.2.1, (IntKind.i64.wrap (x.1.2.2.1 + (1 : Int))), ()), ((x.2.1 ++ ([y1.2.1] : List (Int))), ()))))
 .fail)
 (.ite ((y1.1 == (4 : Int)))
 (.ite (decide (List.length x.2.1 + List.length ([y1.2.1] : List (Int)) ≤ LIM))
 (.ret (.again ((x.1.1, x.1.2.1, (IntKind.i64.wrap (x.1.2.2.1 + (1 : Int))), ()), ((x.2.1 ++ ([y1.2.1] : List (Int))), ()))))
 .fail)
 (.ite ((y1.1 == (5 : Int)))
 (.ite (decide (List.length x.2.1 + List.length ([y1.2.1] : List (Int)) ≤ LIM))
 (.ret (.again ((x.1.1, x.1.2.1, (IntKind.i64.wrap (x.1.2.2.1 + (1 : Int))), ()), ((x.2.1 ++ ([y1.2.1] : List (Int))), ()))))
 .fail)
 (.ite ((y1.1 == (6 : Int)))
 (.ite (decide (List.length x.2.1 + List.length ([y1.2.1] : List (Int)) ≤ LIM))
 (.ret (.again ((x.1.1, x.1.2.1, (IntKind.i64.wrap (x.1.2.2.1 + (1 : Int))), ()), ((x.2.1 ++ ([y1.2.1] : List (Int))), ()))))
 .fail)
 (.ite ((y1.1 == (7 : Int)))
 (.ite (decide (List.length x.2.1 + List.length ([y1.2.1] : List (Int)) ≤ LIM))
 (.ret (.again ((x.1.1, x.1.2.1, (IntKind.i64.wrap (x.1.2.2.1 + (1 : Int))), ()), ((x.2.1 ++ ([y1.2.1] : List (Int))), ()))))
 .fail)
 (.ite ((y1.1 == (8 : Int)))
 (.ite (decide (List.length x.2.1 + List.length ([y1.2.1] : List (Int)) ≤ LIM))
 (.ret (.again ((x.1.1, x.1.2.1, (IntKind.i64.wrap (x.1.2.2.1 + (1 : Int))), ()), ((x.2.1 ++ ([y1.2.1] : List (Int))), ()))))
 .fail)
 (.ite ((y1.1 == (9 : Int)))
 (.ite (decide (List.length x.2.1 + List.length ([y1.2.1] : List (Int)) ≤ LIM))
 (.ret (.again ((x.1.1, x.1.2.1, (IntKind.i64.wrap (x.1.2.2.1 + (1 : Int))), ()), ((x.2.1 ++ ([y1.2.1] : List (Int))), ()))))
 .fail)
 (.ret (.again ((x.1.1, x.1.2.1, (IntKind.i64.wrap (x.1.2.2.1 + (1 : Int))), ()), (x.2.1, ()))))))))))))
 .fail)
 (.ret (.out ((), (x.2.1, ()))))
def f99_tree (a0 : List (Int × Int × Int × Int × List Int × Unit)) : Out (((List Int × Unit) × Unit) × (Unit × Unit)) :=
 .get (iter1 f99_L0 FUEL ((a0, ((List.length a0 : Nat) : Int), (0 : Int), ()), (([] : List (Int)), ()))) fun y1 =>
 .get (sortP y1.2.1) fun y2 =>
 .get (compactP y2) fun y3 =>
 .ret (((y3, ()), ()), ((), ()))
def f99_A : Nat → Option LoopAnn := fun n => annOf [(0, { head := { t := [.dead, .dead, .dead, .srf 64000000, .dead, .dead, .dead, .ro (.st (.cons (.int .i64) (.cons (.int .i64) (.cons (.int .i64) (.cons (.int .i64) (.cons (.sl (.int .i64)) .nil)))))) (some 0), .i .i64, .i .i64, .dead, .dead, .dead, .dead, .dead, .dead, .dead, .dead, .dead, .dead, .dead, .dead, .dead, .dead, .dead, .dead, .dead, .dead, .dead, .dead, .dead, .dead, .dead, .dead], v := [(64000000, .arr (.int .i64))] }, out := { t := [.dead, .dead, .dead, .srf 64000256, .dead, .dead, .dead, .dead, .dead, .dead, .dead, .dead, .dead, .dead, .dead, .dead, .dead, .dead, .dead, .dead, .dead, .dead, .dead, .dead, .dead, .dead, .dead, .dead, .dead, .dead, .dead, .dead, .dead, .dead], v := [(64000256, .arr (.int .i64))] }, ret := none })] n
def k99 : Con := { f := 99, lend := true, its := [⟨false, false, [.ro (.st (.cons (.int .i64) (.cons (.int .i64) (.cons (.int .i64) (.cons (.int .i64) (.cons (.sl (.int .i64)) .nil))))))]⟩], lay := [none], rs := [⟨false, false, [.own (.int .i64)]⟩], F := fun x => .get (touchedV x.1.1) fun y => .ret (((y, ()), ()), ((), ())) }
theorem f99_eq (x : itemsD k99.its) : bodyOut (cxOf [k186, k187]) (f99_A) (codeOf Try.f99) k99.its k99.lay Try.f99.ntmps k99.rs [.tmp 2] x = f99_tree x.1.1 := by kernel_rfl
theorem f99_okp (hr : ∀ x : (List (Int × Int × Int × Int × List Int × Unit) × Unit) × Unit, itemsWF k99.its x → ∀ y, (k99.F x).eval = some y → (f99_tree x.1.1).eval = some y) : k99.Ok Try.prog :=
  con_fn [k186, k187] ⟨k186_ok, k187_ok, trivial⟩ (by kernel_rfl) (codeOf_eq (by kernel_rfl)) (by kernel_rfl) (by kernel_rfl) (by kernel_rfl) f99_eq hr
theorem k99_ok : k99.Ok Try.prog := by
  refine f99_okp fun x hw y hy => ?_
  obtain ⟨⟨a, _⟩, _⟩ := x
  have ha : a.length ≤ BIG := hw.1.1.1
  change (Out.get (touchedV a) fun y => Out.ret (((y, ()), ()), ((), ()))).eval = some y at hy
  unfold touchedV at hy
  split at hy
  case isFalse => exact nomatch hy
  rename_i hl
  refine Eq.trans ?_ hy
  show (f99_tree a).eval = _
  unfold f99_tree
  have := foldl_loop (f := f99_L0) a pickS (fun i p => p.length ≤ i) (fun p i => ((a, (((a.length : Nat) : Int), (((i : Nat) : Int), ()))), (p, ()))) (fun p => ((), (p, ())))
    (fun i hi p hp => by
      unfold pickS
      split
      · simp; omega
      · omega)
    (fun i hi p hp => by
      have h1 := wrap_succ (i := i) (by omega)
      have n1 : nth a i = some a[i] := List.getElem?_eq_getElem hi
      have g1 : decide (p.length + 1 ≤ LIM) = true := decide_eq_true (by rw [LIM_eq]; omega)
      unfold f99_L0 pickS tkV
      simp only [lt_t hi, ge0, Int.toNat_natCast, h1, n1]
      by_cases q1 : a[i].1 = 1
      · simp [Out.eval, q1, g1]
      by_cases q2 : a[i].1 = 2
      · simp [Out.eval, q2, g1]
      by_cases q3 : a[i].1 = 4
      · simp [Out.eval, q3, g1]
      by_cases q4 : a[i].1 = 5
      · simp [Out.eval, q4, g1]
      by_cases q5 : a[i].1 = 6
      · simp [Out.eval, q5, g1]
      by_cases q6 : a[i].1 = 7
      · simp [Out.eval, q6, g1]
      by_cases q7 : a[i].1 = 8
      · simp [Out.eval, q7, g1]
      by_cases q8 : a[i].1 = 9
      · simp [Out.eval, q8, g1]
      simp [Out.eval, q1, q2, q3, q4, q5, q6, q7, q8, cond_eq_ite])
    (fun p _ => by simp [f99_L0, Out.eval]) ha (d := []) (by simp)
  refine (eval_get_some this).trans ?_
  have hp := pickS_len a []
  simp only [List.length_nil, Nat.zero_add] at hp
  have e1 : sortP (a.foldl pickS []) = some (sortV (a.foldl pickS [])) := if_pos (by omega)
  have hs : (sortV (a.foldl pickS [])).length = (a.foldl pickS []).length := List.length_mergeSort _
  have e2 : compactP (sortV (a.foldl pickS [])) = some (compactV (sortV (a.foldl pickS []))) := if_pos (by omega)
  refine (eval_get_some e1).trans ((eval_get_some e2).trans ?_)
  rw [touched_same]; rfl

end Go.Proofs.Ytjcinikojcfebaa.Dm
