/- Functions of the program, and what they compute. -/
import Derived.Test.YtjcinikojcfebaaA4
namespace Go.Proofs.Ytjcinikojcfebaa.Dm
open Go Go.ChangeShapes Go.WideShapes Go.ChangeAt Go.RowKit

/-! ## Several numbers -/
def varsV (l : List Int) : Option Str := lim (l.flatMap varV) (l.flatMap varV)
abbrev f135_S0 := (List UInt8 × List (Int) × Int × Int × Unit) × (Unit)
def f135_L0 (x : f135_S0) : Out (Round f135_S0 ((List UInt8 × Unit) × (Unit)) Empty) :=
 .ite (decide (x.1.2.2.2.1 < x.1.2.2.1))
 (.ite (decide (0 ≤ x.1.2.2.2.1))
 (.get (nth x.1.2.1 (Int.toNat x.1.2.2.2.1)) fun y1 =>
 .ite (decide (List.length x.1.1 + List.length (varV y1) ≤ LIM))
 (.ret (.again (((x.1.1 ++ (varV y1)), x.1.2.1, x.1.2.2.1, (IntKind.i64.wrap (x.1.2.2.2.1 + (1 : Int))), ()), ())))
 .fail)
 .fail)
 (.ret (.out ((x.1.1, ()), ())))
def f135_tree (a0 : List Int) : Out (((List UInt8 × Unit) × Unit) × (Unit × Unit)) :=
 .get (iter1 f135_L0 FUEL ((([] : List UInt8), a0, ((List.length a0 : Nat) : Int), (0 : Int), ()), ())) fun y1 =>
 .ret (((y1.1.1, ()), ()), ((), ()))
def f135_A : Nat → Option LoopAnn := fun n => annOf [(0, { head := { t := [.dead, .dead, .dead, .s, .dead, .dead, .ro (.int .i64) (some 0), .i .i64, .i .i64, .dead, .dead, .dead, .dead, .dead, .dead, .dead, .dead, .dead], v := [] }, out := { t := [.dead, .dead, .dead, .s, .dead, .dead, .dead, .dead, .dead, .dead, .dead, .dead, .dead, .dead, .dead, .dead, .dead, .dead], v := [] }, ret := none })] n
def k135 : Con := { f := 135, lend := true, its := [⟨false, false, [.ro (.int .i64)]⟩], lay := [none], rs := [⟨false, false, [.s]⟩], F := fun x => .get (varsV x.1.1) fun y => .ret (((y, ()), ()), ((), ())) }
theorem f135_eq (x : itemsD k135.its) : bodyOut (cxOf [k200]) (f135_A) (codeOf Try.f135) k135.its k135.lay Try.f135.ntmps k135.rs [.tmp 2] x = f135_tree x.1.1 := by kernel_rfl
theorem f135_okp (hr : ∀ x : (List Int × Unit) × Unit, itemsWF k135.its x → ∀ y, (k135.F x).eval = some y → (f135_tree x.1.1).eval = some y) : k135.Ok Try.prog :=
  con_fn [k200] ⟨k200_ok, trivial⟩ (by kernel_rfl) (codeOf_eq (by kernel_rfl)) (by kernel_rfl) (by kernel_rfl) (by kernel_rfl) f135_eq hr
theorem k135_ok : k135.Ok Try.prog := by
  refine f135_okp fun x hw y hy => ?_
  obtain ⟨⟨a, _⟩, _⟩ := x
  have ha : a.length ≤ BIG := hw.1.1.1
  change (Out.get (varsV a) fun y => Out.ret (((y, ()), ()), ((), ()))).eval = some y at hy
  show (f135_tree a).eval = some y
  unfold f135_tree
  unfold varsV at hy
  by_cases hl : (a.flatMap varV).length ≤ LIM
  · rw [lim_some hl] at hy
    refine Eq.trans ?_ hy
    have := flat_loop (f := f135_L0) varV a (fun s i => ((s, (a, (((a.length : Nat) : Int), (((i : Nat) : Int), ())))), ())) (fun s => ((s, ()), ())) LIM
      (fun i hi s hs => by
        have w1 := wrap_succ (i := i) (by omega)
        simp only [f135_L0, Out.eval, lt_t hi, ge0, nth_get hi, Option.bind_some, cond_true, decide_eq_true hs, w1])
      (fun s => by simp [f135_L0, Out.eval]) ha [] (by simpa using hl)
    exact (eval_get_some this).trans rfl
  · rw [lim_not hl] at hy; exact nomatch hy
theorem varsV_two (m n : Int) : varsV [m, n] = some (varV m ++ varV n) := by
  have h : (List.flatMap varV [m, n]) = varV m ++ varV n := by simp
  unfold varsV
  rw [h]
  exact lim_some (by have := varV_len m; have := varV_len n; rw [LIM_eq, List.length_append]; omega)

/-! ## Records of the log -/
def f40_tree (a0 : Int) (a1 : List (Int × List UInt8 × Unit)) (a2 : Int) : Out (((Int × Unit) × Unit) × (Unit × Unit × Unit)) :=
 .ite (decide ((szWritesV a1 a2) < (0 : Int)))
 (.ret ((((-1 : Int), ()), ()), ((), (), ())))
 (.ret ((((szWritesV a1 a2), ()), ()), ((), (), ())))
def szTxnV (_q : Int) (a : List WriteD) (left : Int) : Int := thenV (szWritesV a left) (szWritesV a left)
def k40 : Con := { f := 40, lend := true, its := [⟨false, true, [.i .i64, .ro (.st (.cons (.int .i64) (.cons .str .nil)))]⟩, ⟨false, false, [.i .i64]⟩], lay := [none, none], rs := [⟨false, false, [.i .i64]⟩], F := fun x => .ret ((((szTxnV x.1.1 x.1.2.1 x.2.1.1), ()), ()), ((), (), ())) }
theorem f40_eq (x : itemsD k40.its) : bodyOut (cxOf [k64]) (fun _ => none) (codeOf Try.f40) k40.its k40.lay Try.f40.ntmps k40.rs [.tmp 4] x = f40_tree x.1.1 x.1.2.1 x.2.1.1 := by kernel_rfl
theorem f40_ok (hr : ∀ x : (Int × List (Int × List UInt8 × Unit) × Unit) × (Int × Unit) × Unit, itemsWF k40.its x → (f40_tree x.1.1 x.1.2.1 x.2.1.1).eval = (k40.F x).eval) : k40.Ok Try.prog :=
  con_fn [k64] ⟨k64_ok, trivial⟩ (by kernel_rfl) (codeOf_eq (by kernel_rfl)) (by kernel_rfl) (by kernel_rfl) (by kernel_rfl) f40_eq fun x hw _ hy => (hr x hw).trans hy
theorem k40_ok : k40.Ok Try.prog := by
  refine f40_ok fun x _ => ?_
  obtain ⟨⟨q, a, _⟩, ⟨k, _⟩, _⟩ := x
  show (f40_tree q a k).eval = some (((szTxnV q a k, ()), ()), ((), ((), ())))
  unfold f40_tree szTxnV thenV
  by_cases h : szWritesV a k < 0 <;> simp [Out.eval, h]
def f42_tree (a0 : Int) (a1 : List (Int × List UInt8 × Unit)) : Out (((Int × List (Int × List UInt8 × Unit) × Unit) × Unit) × (Unit × Unit)) :=
 .get (toWritesV a1) fun y1 =>
 .ret (((a0, y1, ()), ()), ((), ()))
def toTxnV (q : Int) (a : List WriteD) : Option (Int × List WriteD) := lim a (q, a)
def k42 : Con := { f := 42, lend := true, its := [⟨false, true, [.i .i64, .ro (.st (.cons (.int .i64) (.cons .str .nil)))]⟩], lay := [none], rs := [⟨false, true, [.i .i64, .own (.st (.cons (.int .i64) (.cons .str .nil)))]⟩], F := fun x => .get (toTxnV x.1.1 x.1.2.1) fun y => .ret (((y.1, y.2, ()), ()), ((), ())) }
theorem f42_eq (x : itemsD k42.its) : bodyOut (cxOf [k66]) (fun _ => none) (codeOf Try.f42) k42.its k42.lay Try.f42.ntmps k42.rs [.cell 2 54] x = f42_tree x.1.1 x.1.2.1 := by kernel_rfl
theorem f42_ok (hr : ∀ x : (Int × List (Int × List UInt8 × Unit) × Unit) × Unit, itemsWF k42.its x → (f42_tree x.1.1 x.1.2.1).eval = (k42.F x).eval) : k42.Ok Try.prog :=
  con_fn [k66] ⟨k66_ok, trivial⟩ (by kernel_rfl) (codeOf_eq (by kernel_rfl)) (by kernel_rfl) (by kernel_rfl) (by kernel_rfl) f42_eq fun x hw _ hy => (hr x hw).trans hy
theorem k42_ok : k42.Ok Try.prog := by
  refine f42_ok fun x _ => ?_
  obtain ⟨⟨q, a, _⟩, _⟩ := x
  show (f42_tree q a).eval = (Out.get (toTxnV q a) fun y => Out.ret (((y.1, (y.2, ())), ()), ((), ()))).eval
  unfold f42_tree toTxnV toWritesV
  by_cases h : a.length ≤ LIM
  · rw [lim_some h, lim_some h]; rfl
  · rw [lim_not h, lim_not h]; rfl
def f44_tree (a0 : Int) (a1 : List (Int × List UInt8 × Unit)) (a2 : Int) (a3 : List (Int × List UInt8 × Unit)) : Out (((Bool × Unit) × Unit) × (Unit × Unit × Unit)) :=
 .ite ((a0 != a2))
 (.ret (((false, ()), ()), ((), (), ())))
 (.ite (!(eqWritesV a1 a3))
 (.ret (((false, ()), ()), ((), (), ())))
 (.ret (((true, ()), ()), ((), (), ()))))
def eqTxnV (q : Int) (a : List WriteD) (r : Int) (b : List WriteD) : Bool := decide (q = r) && eqWritesV a b
def k44 : Con := { f := 44, lend := true, its := [⟨false, true, [.i .i64, .ro (.st (.cons (.int .i64) (.cons .str .nil)))]⟩, ⟨false, true, [.i .i64, .ro (.st (.cons (.int .i64) (.cons .str .nil)))]⟩], lay := [none, none], rs := [⟨false, false, [.b]⟩], F := fun x => .ret ((((eqTxnV x.1.1 x.1.2.1 x.2.1.1 x.2.1.2.1), ()), ()), ((), (), ())) }
theorem f44_eq (x : itemsD k44.its) : bodyOut (cxOf [k68]) (fun _ => none) (codeOf Try.f44) k44.its k44.lay Try.f44.ntmps k44.rs [.tmp 4] x = f44_tree x.1.1 x.1.2.1 x.2.1.1 x.2.1.2.1 := by kernel_rfl
theorem f44_ok (hr : ∀ x : (Int × List (Int × List UInt8 × Unit) × Unit) × (Int × List (Int × List UInt8 × Unit) × Unit) × Unit, itemsWF k44.its x → (f44_tree x.1.1 x.1.2.1 x.2.1.1 x.2.1.2.1).eval = (k44.F x).eval) : k44.Ok Try.prog :=
  con_fn [k68] ⟨k68_ok, trivial⟩ (by kernel_rfl) (codeOf_eq (by kernel_rfl)) (by kernel_rfl) (by kernel_rfl) (by kernel_rfl) f44_eq fun x hw _ hy => (hr x hw).trans hy
theorem k44_ok : k44.Ok Try.prog := by
  refine f44_ok fun x _ => ?_
  obtain ⟨⟨q, a, _⟩, ⟨r, b, _⟩, _⟩ := x
  show (f44_tree q a r b).eval = some (((eqTxnV q a r b, ()), ()), ((), ((), ())))
  unfold f44_tree eqTxnV
  by_cases h : q = r
  · subst h; cases h2 : eqWritesV a b <;> simp [Out.eval]
  · rw [eval_ite_t (by simpa using h), decide_eq_false h]; rfl
/-- Is this one right, and behind the one before? -/
def rowOkV (a : List WriteD) (i : Nat) : Bool := match a[i]? with
  | none => true
  | some x => inV x.1 0 5 && (match i with | 0 => true | j + 1 => match a[j]? with | none => true | some z => decide (z.1 < x.1)) && decide (x.2.1.length ≤ 60)
def outsOkV (a : List WriteD) : Bool := (List.range a.length).all (rowOkV a)
def txnOkV (q : Int) (a : List WriteD) : Bool := inV q 1 1000000 && inV ((a.length : Nat) : Int) 1 6 && outsOkV a
theorem rowOkV_zero {a : List WriteD} (h : 0 < a.length) : rowOkV a 0 = (inV a[0].1 0 5 && decide (a[0].2.1.length ≤ 60)) := by
  unfold rowOkV
  rw [List.getElem?_eq_getElem h]
  simp
theorem rowOkV_succ {a : List WriteD} {i : Nat} (h : i + 1 < a.length) : rowOkV a (i + 1) = (inV a[i + 1].1 0 5 && decide (a[i].1 < a[i + 1].1) && decide (a[i + 1].2.1.length ≤ 60)) := by
  unfold rowOkV
  rw [List.getElem?_eq_getElem h]
  simp only [List.getElem?_eq_getElem (show i < a.length by omega)]
theorem wrap_pred (i : Nat) (h : i < BIG) : IntKind.i64.wrap (((i + 1 : Nat) : Int) - 1) = ((i : Nat) : Int) := by
  rw [wrap_id (by omega) (by unfold BIG at h; omega)]; omega
theorem wrap_one : IntKind.i64.wrap 1 = 1 := by decide
theorem not_ge (x y : Int) : decide (x ≥ y) = !decide (x < y) := by
  rw [Bool.eq_iff_iff]; simp
abbrev f130_S0 := (Int × Unit) × ((Int × List ((Int × List UInt8 × Unit)) × Unit) × Unit)
def f130_L0 (x : f130_S0) : Out (Round f130_S0 ((Unit) × (Unit)) ((Bool × Unit) × (Unit))) :=
 .ite (decide (x.1.1 < ((List.length x.2.1.2.1 : Nat) : Int)))
 (.ite (decide (0 ≤ x.1.1))
 (.get (nth x.2.1.2.1 (Int.toNat x.1.1)) fun y1 =>
 .ite ((!(inV y1.1 (0 : Int) (5 : Int))) == false)
 (.ite ((decide (x.1.1 > (0 : Int))) == true)
 (.ite (decide (0 ≤ (IntKind.i64.wrap (x.1.1 - (1 : Int)))))
 (.get (nth x.2.1.2.1 (Int.toNat (IntKind.i64.wrap (x.1.1 - (1 : Int))))) fun y2 =>
 .ite (decide (0 ≤ x.1.1))
 (.get (nth x.2.1.2.1 (Int.toNat x.1.1)) fun y3 =>
 .ite ((decide (y2.1 ≥ y3.1)) == false)
 (.ite (decide (0 ≤ x.1.1))
 (.get (nth x.2.1.2.1 (Int.toNat x.1.1)) fun y4 =>
 .ite (decide (((List.length y4.2.1 : Nat) : Int) > (60 : Int)))
 (.ret (.ret ((false, ()), ())))
 (.ret (.again (((IntKind.i64.wrap (x.1.1 + (1 : Int))), ()), ((x.2.1.1, x.2.1.2.1, ()), ())))))
 .fail)
 (.ret (.ret ((false, ()), ()))))
 .fail)
 .fail)
 (.ite (decide (0 ≤ x.1.1))
 (.get (nth x.2.1.2.1 (Int.toNat x.1.1)) fun y5 =>
 .ite (decide (((List.length y5.2.1 : Nat) : Int) > (60 : Int)))
 (.ret (.ret ((false, ()), ())))
 (.ret (.again (((IntKind.i64.wrap (x.1.1 + (1 : Int))), ()), ((x.2.1.1, x.2.1.2.1, ()), ())))))
 .fail))
 (.ret (.ret ((false, ()), ()))))
 .fail)
 (.ret (.out ((), ())))
def f130_tree (a0 : Int) (a1 : List (Int × List UInt8 × Unit)) : Out (((Bool × Unit) × Unit) × (Unit × Unit)) :=
 .ite ((!(inV a0 (1 : Int) (1000000 : Int))) == false)
 (.ite (!(inV ((List.length a1 : Nat) : Int) (1 : Int) (6 : Int)))
 (.ret (((false, ()), ()), ((), ())))
 (.get (iter f130_L0 FUEL (((0 : Int), ()), ((a0, a1, ()), ()))) fun y1 => .alt y1 (fun y2 =>
 .ret (((true, ()), ()), ((), ()))) (fun y3 =>
 .ret (((y3.1.1, ()), ()), ((), ())))))
 (.ret (((false, ()), ()), ((), ())))
def f130_A : Nat → Option LoopAnn := fun n => annOf [(0, { head := { t := [.dead, .vptr 64000000 0, .dead, .i .i64, .dead, .dead, .dead, .dead, .dead, .dead, .dead, .dead, .dead, .dead, .dead, .dead, .dead, .dead, .dead, .dead, .dead, .dead, .dead, .dead, .dead, .dead, .dead, .dead, .dead, .dead, .dead, .dead, .dead, .dead, .dead, .dead, .dead, .dead, .dead, .dead, .dead, .dead, .dead, .dead, .dead, .dead, .dead, .dead, .dead, .dead, .dead, .dead, .dead, .dead, .dead, .dead, .dead, .dead, .dead, .dead], v := [(64000000, .var [.i .i64, .ro (.st (.cons (.int .i64) (.cons .str .nil))) (some 0)])] }, out := { t := [.dead, .dead, .dead, .dead, .dead, .dead, .dead, .dead, .dead, .dead, .dead, .dead, .dead, .dead, .dead, .dead, .dead, .dead, .dead, .dead, .dead, .dead, .dead, .dead, .dead, .dead, .dead, .dead, .dead, .dead, .dead, .dead, .dead, .dead, .dead, .dead, .dead, .dead, .dead, .dead, .dead, .dead, .dead, .dead, .dead, .dead, .dead, .dead, .dead, .dead, .dead, .dead, .dead, .dead, .dead, .dead, .dead, .dead, .dead, .dead], v := [] }, ret := some { t := [.dead, .dead, .b, .dead, .dead, .dead, .dead, .dead, .dead, .dead, .dead, .dead, .dead, .dead, .dead, .dead, .dead, .dead, .dead, .dead, .dead, .dead, .dead, .dead, .dead, .dead, .dead, .dead, .dead, .dead, .dead, .dead, .dead, .dead, .dead, .dead, .dead, .dead, .dead, .dead, .dead, .dead, .dead, .dead, .dead, .dead, .dead, .dead, .dead, .dead, .dead, .dead, .dead, .dead, .dead, .dead, .dead, .dead, .dead, .dead], v := [] } })] n
def k130 : Con := { f := 130, lend := true, its := [⟨false, true, [.i .i64, .ro (.st (.cons (.int .i64) (.cons .str .nil)))]⟩], lay := [none], rs := [⟨false, false, [.b]⟩], F := fun x => .ret ((((txnOkV x.1.1 x.1.2.1), ()), ()), ((), ())) }
theorem f130_eq (x : itemsD k130.its) : bodyOut (cxOf [k165]) (f130_A) (codeOf Try.f130) k130.its k130.lay Try.f130.ntmps k130.rs [.tmp 2] x = f130_tree x.1.1 x.1.2.1 := by kernel_rfl
theorem f130_ok (hr : ∀ x : (Int × List (Int × List UInt8 × Unit) × Unit) × Unit, itemsWF k130.its x → (f130_tree x.1.1 x.1.2.1).eval = (k130.F x).eval) : k130.Ok Try.prog :=
  con_fn [k165] ⟨k165_ok, trivial⟩ (by kernel_rfl) (codeOf_eq (by kernel_rfl)) (by kernel_rfl) (by kernel_rfl) (by kernel_rfl) f130_eq fun x hw _ hy => (hr x hw).trans hy
theorem k130_ok : k130.Ok Try.prog := by
  refine f130_ok fun x hw => ?_
  obtain ⟨⟨q, a, _⟩, _⟩ := x
  have ha : a.length ≤ BIG := hw.1.1.1
  show (f130_tree q a).eval = some (((txnOkV q a, ()), ()), ((), ()))
  unfold f130_tree txnOkV
  by_cases h1 : inV q 1 1000000 = true
  · by_cases h2 : inV ((a.length : Nat) : Int) 1 6 = true
    · rw [eval_ite_t (by simp [h1]), eval_ite_f (by simp [h2]), h1, h2]
      have := iter_scan (f := f130_L0) (fun i => ((((i : Nat) : Int), ()), ((q, (a, ())), ()))) (rowOkV a) a.length (y := ((), ())) (z := ((false, ()), ())) (lt_fuel ha)
        (fun i hi hp => by
          have w1 := wrap_succ (i := i) (by omega)
          cases i with
          | zero =>
            rw [rowOkV_zero hi] at hp
            obtain ⟨p1, p2⟩ := Bool.and_eq_true_iff.1 hp
            have p2 : ¬ (60 : Int) < ((a[0].2.1.length : Nat) : Int) := by have := of_decide_eq_true p2; omega
            simp [f130_L0, Out.eval, hi, p1, p2, wrap_one]
          | succ i =>
            rw [rowOkV_succ hi] at hp
            obtain ⟨p1, p2⟩ := Bool.and_eq_true_iff.1 hp
            obtain ⟨p1, p3⟩ := Bool.and_eq_true_iff.1 p1
            have p2 : decide (((a[i + 1].2.1.length : Nat) : Int) > (60 : Int)) = false := decide_eq_false (by have := of_decide_eq_true p2; omega)
            have w2 := wrap_pred i (by omega)
            have w3 : decide (((i + 1 : Nat) : Int) > 0) = true := decide_eq_true (by omega)
            simp only [f130_L0, Out.eval, lt_t hi, ge0, nth_get hi, nth_get (show i < a.length by omega), w1, w2, w3, p1, p2, p3, not_ge, Option.bind_some, cond_true]
            rfl)
        (fun i hi hp => by
          cases i with
          | zero =>
            rw [rowOkV_zero hi] at hp
            by_cases p1 : inV a[0].1 0 5 = true
            · rw [p1, Bool.true_and] at hp
              have p2 : (60 : Int) < ((a[0].2.1.length : Nat) : Int) := by have := of_decide_eq_false hp; omega
              simp [f130_L0, Out.eval, hi, p1, p2]
            · simp [f130_L0, Out.eval, hi, p1]
          | succ i =>
            rw [rowOkV_succ hi] at hp
            have w2 := wrap_pred i (by omega)
            have w3 : decide (((i + 1 : Nat) : Int) > 0) = true := decide_eq_true (by omega)
            have g : decide (((a[i + 1].2.1.length : Nat) : Int) > (60 : Int)) = !decide (a[i + 1].2.1.length ≤ 60) := gt_cast (m := 60)
            simp only [f130_L0, Out.eval, lt_t hi, ge0, nth_get hi, nth_get (show i < a.length by omega), w2, w3, not_ge, g, Option.bind_some, cond_true]
            cases p1 : inV a[i + 1].1 0 5 <;> cases p2 : decide (a[i].1 < a[i + 1].1) <;> cases p3 : decide (a[i + 1].2.1.length ≤ 60) <;> rw [p1, p2, p3] at hp <;> first | rfl | exact absurd hp (by decide))
        (by simp [f130_L0, Out.eval])
      refine (eval_get_some this).trans ?_
      unfold outsOkV
      cases (List.range a.length).all (rowOkV a) <;> rfl
    · rw [eval_ite_t (by simp [h1]), eval_ite_t (by simp [h2]), Bool.eq_false_iff.2 h2]; simp [Out.eval]
  · rw [eval_ite_f (by simp [h1]), Bool.eq_false_iff.2 h1]; simp [Out.eval]
abbrev f134_S0 := (List ((Int × List UInt8 × Unit)) × Int × Int × Unit) × ((Int × List ((Int × List UInt8 × Unit)) × Unit) × Unit)
def f134_L0 (x : f134_S0) : Out (Round f134_S0 ((Unit) × (Unit)) ((Bool × Unit) × (Unit))) :=
 .ite (decide (x.1.2.2.1 < x.1.2.1))
 (.ite (decide (0 ≤ x.1.2.2.1))
 (.get (nth x.1.1 (Int.toNat x.1.2.2.1)) fun y1 =>
 .ite ((!(inV y1.1 (0 : Int) (5 : Int))) == false)
 (.ite ((decide (x.1.2.2.1 > (0 : Int))) == true)
 (.ite (decide (0 ≤ (IntKind.i64.wrap (x.1.2.2.1 - (1 : Int)))))
 (.get (nth x.2.1.2.1 (Int.toNat (IntKind.i64.wrap (x.1.2.2.1 - (1 : Int))))) fun y2 =>
 .ite ((decide (y2.1 ≥ y1.1)) == false)
 (.ite (decide (((List.length y1.2.1 : Nat) : Int) > (60 : Int)))
 (.ret (.ret ((false, ()), ())))
 (.ret (.again ((x.1.1, x.1.2.1, (IntKind.i64.wrap (x.1.2.2.1 + (1 : Int))), ()), ((x.2.1.1, x.2.1.2.1, ()), ())))))
 (.ret (.ret ((false, ()), ()))))
 .fail)
 (.ite (decide (((List.length y1.2.1 : Nat) : Int) > (60 : Int)))
 (.ret (.ret ((false, ()), ())))
 (.ret (.again ((x.1.1, x.1.2.1, (IntKind.i64.wrap (x.1.2.2.1 + (1 : Int))), ()), ((x.2.1.1, x.2.1.2.1, ()), ()))))))
 (.ret (.ret ((false, ()), ()))))
 .fail)
 (.ret (.out ((), ())))
def f134_tree (a0 : Int) (a1 : List (Int × List UInt8 × Unit)) : Out (((Bool × Unit) × Unit) × (Unit × Unit)) :=
 .ite ((!(inV a0 (1 : Int) (1000000 : Int))) == false)
 (.ite (!(inV ((List.length a1 : Nat) : Int) (1 : Int) (6 : Int)))
 (.ret (((false, ()), ()), ((), ())))
 (.get (iter f134_L0 FUEL ((a1, ((List.length a1 : Nat) : Int), (0 : Int), ()), ((a0, a1, ()), ()))) fun y1 => .alt y1 (fun y2 =>
 .ret (((true, ()), ()), ((), ()))) (fun y3 =>
 .ret (((y3.1.1, ()), ()), ((), ())))))
 (.ret (((false, ()), ()), ((), ())))
def f134_A : Nat → Option LoopAnn := fun n => annOf [(0, { head := { t := [.dead, .vptr 64000000 0, .dead, .dead, .dead, .dead, .dead, .dead, .dead, .dead, .dead, .dead, .dead, .dead, .dead, .dead, .dead, .ro (.st (.cons (.int .i64) (.cons .str .nil))) (some 0), .i .i64, .i .i64, .dead, .dead, .dead, .dead, .dead, .dead, .dead, .dead, .dead, .dead, .dead, .dead, .dead, .dead, .dead, .dead, .dead, .dead, .dead, .dead, .dead, .dead, .dead, .dead, .dead, .dead, .dead, .dead, .dead, .dead, .dead], v := [(64000000, .var [.i .i64, .ro (.st (.cons (.int .i64) (.cons .str .nil))) (some 0)])] }, out := { t := [.dead, .dead, .dead, .dead, .dead, .dead, .dead, .dead, .dead, .dead, .dead, .dead, .dead, .dead, .dead, .dead, .dead, .dead, .dead, .dead, .dead, .dead, .dead, .dead, .dead, .dead, .dead, .dead, .dead, .dead, .dead, .dead, .dead, .dead, .dead, .dead, .dead, .dead, .dead, .dead, .dead, .dead, .dead, .dead, .dead, .dead, .dead, .dead, .dead, .dead, .dead], v := [] }, ret := some { t := [.dead, .dead, .b, .dead, .dead, .dead, .dead, .dead, .dead, .dead, .dead, .dead, .dead, .dead, .dead, .dead, .dead, .dead, .dead, .dead, .dead, .dead, .dead, .dead, .dead, .dead, .dead, .dead, .dead, .dead, .dead, .dead, .dead, .dead, .dead, .dead, .dead, .dead, .dead, .dead, .dead, .dead, .dead, .dead, .dead, .dead, .dead, .dead, .dead, .dead, .dead], v := [] } })] n
def k134 : Con := { f := 134, lend := true, its := [⟨false, true, [.i .i64, .ro (.st (.cons (.int .i64) (.cons .str .nil)))]⟩], lay := [none], rs := [⟨false, false, [.b]⟩], F := fun x => .ret ((((txnOkV x.1.1 x.1.2.1), ()), ()), ((), ())) }
theorem f134_eq (x : itemsD k134.its) : bodyOut (cxOf [k166]) (f134_A) (codeOf Try.f134) k134.its k134.lay Try.f134.ntmps k134.rs [.tmp 2] x = f134_tree x.1.1 x.1.2.1 := by kernel_rfl
theorem f134_ok (hr : ∀ x : (Int × List (Int × List UInt8 × Unit) × Unit) × Unit, itemsWF k134.its x → (f134_tree x.1.1 x.1.2.1).eval = (k134.F x).eval) : k134.Ok Try.prog :=
  con_fn [k166] ⟨k166_ok, trivial⟩ (by kernel_rfl) (codeOf_eq (by kernel_rfl)) (by kernel_rfl) (by kernel_rfl) (by kernel_rfl) f134_eq fun x hw _ hy => (hr x hw).trans hy
theorem k134_ok : k134.Ok Try.prog := by
  refine f134_ok fun x hw => ?_
  obtain ⟨⟨q, a, _⟩, _⟩ := x
  have ha : a.length ≤ BIG := hw.1.1.1
  show (f134_tree q a).eval = some (((txnOkV q a, ()), ()), ((), ()))
  unfold f134_tree txnOkV
  by_cases h1 : inV q 1 1000000 = true
  · by_cases h2 : inV ((a.length : Nat) : Int) 1 6 = true
    · rw [eval_ite_t (by simp [h1]), eval_ite_f (by simp [h2]), h1, h2]
      have := iter_scan (f := f134_L0) (fun i => ((a, (((a.length : Nat) : Int), (((i : Nat) : Int), ()))), ((q, (a, ())), ()))) (rowOkV a) a.length (y := ((), ())) (z := ((false, ()), ())) (lt_fuel ha)
        (fun i hi hp => by
          have w1 := wrap_succ (i := i) (by omega)
          cases i with
          | zero =>
            rw [rowOkV_zero hi] at hp
            obtain ⟨p1, p2⟩ := Bool.and_eq_true_iff.1 hp
            have p2 : ¬ (60 : Int) < ((a[0].2.1.length : Nat) : Int) := by have := of_decide_eq_true p2; omega
            simp [f134_L0, Out.eval, hi, p1, p2, wrap_one]
          | succ i =>
            rw [rowOkV_succ hi] at hp
            obtain ⟨p1, p2⟩ := Bool.and_eq_true_iff.1 hp
            obtain ⟨p1, p3⟩ := Bool.and_eq_true_iff.1 p1
            have p2 : decide (((a[i + 1].2.1.length : Nat) : Int) > (60 : Int)) = false := decide_eq_false (by have := of_decide_eq_true p2; omega)
            have w2 := wrap_pred i (by omega)
            have w3 : decide (((i + 1 : Nat) : Int) > 0) = true := decide_eq_true (by omega)
            simp only [f134_L0, Out.eval, lt_t hi, ge0, nth_get hi, nth_get (show i < a.length by omega), w1, w2, w3, p1, p2, p3, not_ge, Option.bind_some, cond_true]
            rfl)
        (fun i hi hp => by
          cases i with
          | zero =>
            rw [rowOkV_zero hi] at hp
            by_cases p1 : inV a[0].1 0 5 = true
            · rw [p1, Bool.true_and] at hp
              have p2 : (60 : Int) < ((a[0].2.1.length : Nat) : Int) := by have := of_decide_eq_false hp; omega
              simp [f134_L0, Out.eval, hi, p1, p2]
            · simp [f134_L0, Out.eval, hi, p1]
          | succ i =>
            rw [rowOkV_succ hi] at hp
            have w2 := wrap_pred i (by omega)
            have w3 : decide (((i + 1 : Nat) : Int) > 0) = true := decide_eq_true (by omega)
            have g : decide (((a[i + 1].2.1.length : Nat) : Int) > (60 : Int)) = !decide (a[i + 1].2.1.length ≤ 60) := gt_cast (m := 60)
            simp only [f134_L0, Out.eval, lt_t hi, ge0, nth_get hi, nth_get (show i < a.length by omega), w2, w3, not_ge, g, Option.bind_some, cond_true]
            cases p1 : inV a[i + 1].1 0 5 <;> cases p2 : decide (a[i].1 < a[i + 1].1) <;> cases p3 : decide (a[i + 1].2.1.length ≤ 60) <;> rw [p1, p2, p3] at hp <;> first | rfl | exact absurd hp (by decide))
        (by simp [f134_L0, Out.eval])
      refine (eval_get_some this).trans ?_
      unfold outsOkV
      cases (List.range a.length).all (rowOkV a) <;> rfl
    · rw [eval_ite_t (by simp [h1]), eval_ite_t (by simp [h2]), Bool.eq_false_iff.2 h2]; simp [Out.eval]
  · rw [eval_ite_f (by simp [h1]), Bool.eq_false_iff.2 h1]; simp [Out.eval]
theorem txnOkV_parts {q : Int} {a : List WriteD} (h : txnOkV q a = true) : (1 ≤ q ∧ q ≤ 1000000) ∧ (1 ≤ a.length ∧ a.length ≤ 6) ∧ ∀ x ∈ a, (0 ≤ x.1 ∧ x.1 ≤ 5) ∧ x.2.1.length ≤ 60 := by
  unfold txnOkV at h
  obtain ⟨h1, h2⟩ := Bool.and_eq_true_iff.1 h
  obtain ⟨h1, h3⟩ := Bool.and_eq_true_iff.1 h1
  refine ⟨by simpa [inV] using h1, by have : 1 ≤ ((a.length : Nat) : Int) ∧ ((a.length : Nat) : Int) ≤ 6 := by simpa [inV] using h3
                                      omega, fun x hx => ?_⟩
  obtain ⟨i, hi, rfl⟩ := List.getElem_of_mem hx
  have hr := List.all_eq_true.1 h2 i (List.mem_range.2 hi)
  cases i with
  | zero =>
    rw [rowOkV_zero hi] at hr
    simpa [inV] using hr
  | succ i =>
    rw [rowOkV_succ hi] at hr
    have : ((0 ≤ a[i + 1].1 ∧ a[i + 1].1 ≤ 5) ∧ a[i].1 < a[i + 1].1) ∧ a[i + 1].2.1.length ≤ 60 := by simpa [inV] using hr
    exact ⟨this.1.1, this.2⟩
/-- A write, told. -/
def outS (x : WriteD) : Str := varV x.1 ++ (varV ((x.2.1.length : Nat) : Int) ++ x.2.1)
def txnS (q : Int) (a : List WriteD) : Str := ([116] ++ varV q ++ varV ((a.length : Nat) : Int)) ++ a.flatMap outS
/-- The sum of a text, told. -/
def sumS (s : Str) : Str := fixB 4 (4294967295 - crcN s)
theorem sumS_len (s : Str) : (sumS s).length = 4 := fixB_len _ _
theorem fixed_crc (s : Str) : fixedV (crcV s) 4 = some (sumS s) := by
  unfold fixedV
  rw [if_pos (crcV_le s), if_pos ⟨by decide, by unfold crcV; omega, by show (4294967295 - crcN s) < 256 ^ 4; omega⟩]
  rfl
def showTxnV (q : Int) (a : List WriteD) : Str := if txnOkV q a = true then sumS (txnS q a) ++ txnS q a else []
theorem flatMap_len {α β : Type} (h : α → List β) (m : Nat) : ∀ (a : List α), (∀ x ∈ a, (h x).length ≤ m) → (a.flatMap h).length ≤ m * a.length
  | [], _ => by simp
  | x :: r, hx => by
    have h1 := hx x (by simp)
    have h2 := flatMap_len h m r fun y hy => hx y (by simp [hy])
    rw [List.flatMap_cons, List.length_append, List.length_cons, Nat.mul_succ]; omega
theorem txnS_len {q : Int} {a : List WriteD} (h : txnOkV q a = true) : ([116] ++ varV q ++ varV ((a.length : Nat) : Int)).length + (a.flatMap outS).length ≤ 459 := by
  obtain ⟨_, h2, h3⟩ := txnOkV_parts h
  have h4 := flatMap_len outS 74 a fun x hx => by
    have := (h3 x hx).2
    have := varV_len x.1; have := varV_len ((x.2.1.length : Nat) : Int)
    simp only [outS, List.length_append]; omega
  have := varV_len q; have := varV_len ((a.length : Nat) : Int)
  have : 74 * a.length ≤ 74 * 6 := Nat.mul_le_mul_left _ h2.2
  simp only [List.length_append, List.length_cons, List.length_nil]; omega
abbrev f41_S0 := (List UInt8 × Int × Unit) × ((Int × List ((Int × List UInt8 × Unit)) × Unit) × Unit)
def f41_L0 (x : f41_S0) : Out (Round f41_S0 ((List UInt8 × Unit) × (Unit)) Empty) :=
 .ite (decide (x.1.2.1 < ((List.length x.2.1.2.1 : Nat) : Int)))
 (.ite (decide (0 ≤ x.1.2.1))
 (.get (nth x.2.1.2.1 (Int.toNat x.1.2.1)) fun y1 =>
 .ite (decide (List.length x.1.1 + List.length (varV y1.1) ≤ LIM))
 (.ite (decide (0 ≤ x.1.2.1))
 (.get (nth x.2.1.2.1 (Int.toNat x.1.2.1)) fun y2 =>
 .ite (decide (List.length (x.1.1 ++ (varV y1.1)) + List.length (varV ((List.length y2.2.1 : Nat) : Int)) ≤ LIM))
 (.ite (decide (0 ≤ x.1.2.1))
 (.get (nth x.2.1.2.1 (Int.toNat x.1.2.1)) fun y3 =>
 .ite (decide (List.length ((x.1.1 ++ (varV y1.1)) ++ (varV ((List.length y2.2.1 : Nat) : Int))) + List.length y3.2.1 ≤ LIM))
 (.ret (.again (((((x.1.1 ++ (varV y1.1)) ++ (varV ((List.length y2.2.1 : Nat) : Int))) ++ y3.2.1), (IntKind.i64.wrap (x.1.2.1 + (1 : Int))), ()), ((x.2.1.1, x.2.1.2.1, ()), ()))))
 .fail)
 .fail)
 .fail)
 .fail)
 .fail)
 .fail)
 (.ret (.out ((x.1.1, ()), ())))
def f41_tree (a0 : Int) (a1 : List (Int × List UInt8 × Unit)) : Out (((List UInt8 × Unit) × Unit) × (Unit × Unit)) :=
 .ite (!(txnOkV a0 a1))
 (.ret (((([] : List UInt8), ()), ()), ((), ())))
 (.ite (decide (List.length ([116] : List UInt8) + List.length (varV a0) ≤ LIM))
 (.ite (decide (List.length (([116] : List UInt8) ++ (varV a0)) + List.length (varV ((List.length a1 : Nat) : Int)) ≤ LIM))
 (.get (iter1 f41_L0 FUEL ((((([116] : List UInt8) ++ (varV a0)) ++ (varV ((List.length a1 : Nat) : Int))), (0 : Int), ()), ((a0, a1, ()), ()))) fun y1 =>
 .get (fixedV (crcV y1.1.1) (4 : Int)) fun y2 =>
 .ite (decide (List.length y2 + List.length y1.1.1 ≤ LIM))
 (.ret ((((y2 ++ y1.1.1), ()), ()), ((), ())))
 .fail)
 .fail)
 .fail)
def f41_A : Nat → Option LoopAnn := fun n => annOf [(0, { head := { t := [.dead, .vptr 64000000 0, .dead, .s, .i .i64, .dead, .dead, .dead, .dead, .dead, .dead, .dead, .dead, .dead, .dead, .dead, .dead, .dead, .dead, .dead, .dead, .dead, .dead, .dead, .dead, .dead, .dead, .dead, .dead, .dead, .dead, .dead, .dead, .dead, .dead, .dead, .dead, .dead, .dead, .dead, .dead, .dead, .dead, .dead, .dead, .dead, .dead, .dead, .dead, .dead, .dead, .dead, .dead, .dead], v := [(64000000, .var [.i .i64, .ro (.st (.cons (.int .i64) (.cons .str .nil))) (some 0)])] }, out := { t := [.dead, .dead, .dead, .s, .dead, .dead, .dead, .dead, .dead, .dead, .dead, .dead, .dead, .dead, .dead, .dead, .dead, .dead, .dead, .dead, .dead, .dead, .dead, .dead, .dead, .dead, .dead, .dead, .dead, .dead, .dead, .dead, .dead, .dead, .dead, .dead, .dead, .dead, .dead, .dead, .dead, .dead, .dead, .dead, .dead, .dead, .dead, .dead, .dead, .dead, .dead, .dead, .dead, .dead], v := [] }, ret := none })] n
def k41 : Con := { f := 41, lend := true, its := [⟨false, true, [.i .i64, .ro (.st (.cons (.int .i64) (.cons .str .nil)))]⟩], lay := [none], rs := [⟨false, false, [.s]⟩], F := fun x => .ret ((((showTxnV x.1.1 x.1.2.1), ()), ()), ((), ())) }
theorem f41_eq (x : itemsD k41.its) : bodyOut (cxOf [k130, k131, k133, k132]) (f41_A) (codeOf Try.f41) k41.its k41.lay Try.f41.ntmps k41.rs [.tmp 2] x = f41_tree x.1.1 x.1.2.1 := by kernel_rfl
theorem f41_ok (hr : ∀ x : (Int × List (Int × List UInt8 × Unit) × Unit) × Unit, itemsWF k41.its x → (f41_tree x.1.1 x.1.2.1).eval = (k41.F x).eval) : k41.Ok Try.prog :=
  con_fn [k130, k131, k133, k132] ⟨k130_ok, k131_ok, k133_ok, k132_ok, trivial⟩ (by kernel_rfl) (codeOf_eq (by kernel_rfl)) (by kernel_rfl) (by kernel_rfl) (by kernel_rfl) f41_eq fun x hw _ hy => (hr x hw).trans hy
theorem k41_ok : k41.Ok Try.prog := by
  refine f41_ok fun x hw => ?_
  obtain ⟨⟨q, a, _⟩, _⟩ := x
  have ha : a.length ≤ BIG := hw.1.1.1
  show (f41_tree q a).eval = some (((showTxnV q a, ()), ()), ((), ()))
  unfold f41_tree showTxnV
  by_cases h : txnOkV q a = true
  · have hl := txnS_len h
    have hl1 : List.length ([116] : Str) + (varV q).length ≤ LIM := by have := varV_len q; rw [LIM_eq]; simp; omega
    have hl2 : List.length (([116] : Str) ++ varV q) + (varV ((a.length : Nat) : Int)).length ≤ LIM := by have := varV_len q; have := varV_len ((a.length : Nat) : Int); rw [LIM_eq]; simp; omega
    rw [eval_ite_f (by simp [h]), if_pos h, eval_ite_t (decide_eq_true hl1), eval_ite_t (decide_eq_true hl2)]
    have := flat_loop (f := f41_L0) outS a (fun s i => ((s, (((i : Nat) : Int), ())), ((q, (a, ())), ()))) (fun s => ((s, ()), ())) LIM
      (fun i hi s hs => by
        have w1 := wrap_succ (i := i) (by omega)
        simp only [outS, List.length_append] at hs
        have g1 : s.length + (varV a[i].1).length ≤ LIM := by omega
        have g2 : (s ++ varV a[i].1).length + (varV ((a[i].2.1.length : Nat) : Int)).length ≤ LIM := by rw [List.length_append]; omega
        have g3 : ((s ++ varV a[i].1) ++ varV ((a[i].2.1.length : Nat) : Int)).length + a[i].2.1.length ≤ LIM := by rw [List.length_append, List.length_append]; omega
        simp only [f41_L0, Out.eval, lt_t hi, ge0, nth_get hi, Option.bind_some, cond_true, decide_eq_true g1, decide_eq_true g2, decide_eq_true g3, w1, outS]
        simp only [List.append_assoc])
      (fun s => by simp [f41_L0, Out.eval]) ha ([116] ++ varV q ++ varV ((a.length : Nat) : Int)) (by rw [LIM_eq]; omega)
    refine (eval_get_some this).trans ?_
    rw [fixed_crc]
    have g : (sumS (txnS q a)).length + (txnS q a).length ≤ LIM := by rw [LIM_eq, sumS_len]; unfold txnS; rw [List.length_append]; omega
    exact (eval_get_some rfl).trans ((eval_ite_t (decide_eq_true g)).trans rfl)
  · rw [eval_ite_t (by simp [h]), if_neg h]; rfl
abbrev f43_S0 := (List UInt8 × List ((Int × List UInt8 × Unit)) × Int × Int × Unit) × (Unit)
def f43_L0 (x : f43_S0) : Out (Round f43_S0 ((List UInt8 × Unit) × (Unit)) Empty) :=
 .ite (decide (x.1.2.2.2.1 < x.1.2.2.1))
 (.ite (decide (0 ≤ x.1.2.2.2.1))
 (.get (nth x.1.2.1 (Int.toNat x.1.2.2.2.1)) fun y1 =>
 .get (varsV ([y1.1, ((List.length y1.2.1 : Nat) : Int)] : List (Int))) fun y2 =>
 .ite (decide (List.length y2 + List.length y1.2.1 ≤ LIM))
 (.ite (decide (List.length x.1.1 + List.length (y2 ++ y1.2.1) ≤ LIM))
 (.ret (.again (((x.1.1 ++ (y2 ++ y1.2.1)), x.1.2.1, x.1.2.2.1, (IntKind.i64.wrap (x.1.2.2.2.1 + (1 : Int))), ()), ())))
 .fail)
 .fail)
 .fail)
 (.ret (.out ((x.1.1, ()), ())))
def f43_tree (a0 : Int) (a1 : List (Int × List UInt8 × Unit)) : Out (((List UInt8 × Unit) × Unit) × (Unit × Unit)) :=
 .ite (!(txnOkV a0 a1))
 (.ret (((([] : List UInt8), ()), ()), ((), ())))
 (.get (varsV ([a0, ((List.length a1 : Nat) : Int)] : List (Int))) fun y1 =>
 .ite (decide (List.length ([116] : List UInt8) + List.length y1 ≤ LIM))
 (.get (iter1 f43_L0 FUEL (((([116] : List UInt8) ++ y1), a1, ((List.length a1 : Nat) : Int), (0 : Int), ()), ())) fun y2 =>
 .get (fixedV (crcV y2.1.1) (4 : Int)) fun y3 =>
 .ite (decide (List.length y3 + List.length y2.1.1 ≤ LIM))
 (.ret ((((y3 ++ y2.1.1), ()), ()), ((), ())))
 .fail)
 .fail)
def f43_A : Nat → Option LoopAnn := fun n => annOf [(0, { head := { t := [.dead, .dead, .dead, .s, .dead, .dead, .dead, .dead, .dead, .dead, .dead, .dead, .dead, .dead, .dead, .dead, .dead, .dead, .ro (.st (.cons (.int .i64) (.cons .str .nil))) (some 0), .i .i64, .i .i64, .dead, .dead, .dead, .dead, .dead, .dead, .dead, .dead, .dead, .dead, .dead, .dead, .dead, .dead, .dead, .dead, .dead, .dead, .dead, .dead, .dead], v := [] }, out := { t := [.dead, .dead, .dead, .s, .dead, .dead, .dead, .dead, .dead, .dead, .dead, .dead, .dead, .dead, .dead, .dead, .dead, .dead, .dead, .dead, .dead, .dead, .dead, .dead, .dead, .dead, .dead, .dead, .dead, .dead, .dead, .dead, .dead, .dead, .dead, .dead, .dead, .dead, .dead, .dead, .dead, .dead], v := [] }, ret := none })] n
def k43 : Con := { f := 43, lend := true, its := [⟨false, true, [.i .i64, .ro (.st (.cons (.int .i64) (.cons .str .nil)))]⟩], lay := [none], rs := [⟨false, false, [.s]⟩], F := fun x => .ret ((((showTxnV x.1.1 x.1.2.1), ()), ()), ((), ())) }
theorem f43_eq (x : itemsD k43.its) : bodyOut (cxOf [k134, k135, k137, k136]) (f43_A) (codeOf Try.f43) k43.its k43.lay Try.f43.ntmps k43.rs [.tmp 2] x = f43_tree x.1.1 x.1.2.1 := by kernel_rfl
theorem f43_ok (hr : ∀ x : (Int × List (Int × List UInt8 × Unit) × Unit) × Unit, itemsWF k43.its x → (f43_tree x.1.1 x.1.2.1).eval = (k43.F x).eval) : k43.Ok Try.prog :=
  con_fn [k134, k135, k137, k136] ⟨k134_ok, k135_ok, k137_ok, k136_ok, trivial⟩ (by kernel_rfl) (codeOf_eq (by kernel_rfl)) (by kernel_rfl) (by kernel_rfl) (by kernel_rfl) f43_eq fun x hw _ hy => (hr x hw).trans hy
theorem k43_ok : k43.Ok Try.prog := by
  refine f43_ok fun x hw => ?_
  obtain ⟨⟨q, a, _⟩, _⟩ := x
  have ha : a.length ≤ BIG := hw.1.1.1
  show (f43_tree q a).eval = some (((showTxnV q a, ()), ()), ((), ()))
  unfold f43_tree showTxnV
  by_cases h : txnOkV q a = true
  · have hl := txnS_len h
    have hl2 : List.length ([116] : Str) + (varV q ++ varV ((a.length : Nat) : Int)).length ≤ LIM := by have := varV_len q; have := varV_len ((a.length : Nat) : Int); rw [LIM_eq]; simp; omega
    rw [eval_ite_f (by simp [h]), if_pos h, varsV_two]
    refine (eval_get_some rfl).trans ?_
    rw [eval_ite_t (decide_eq_true hl2)]
    have := flat_loop (f := f43_L0) outS a (fun s i => ((s, (a, (((a.length : Nat) : Int), (((i : Nat) : Int), ())))), ())) (fun s => ((s, ()), ())) LIM
      (fun i hi s hs => by
        have w1 := wrap_succ (i := i) (by omega)
        simp only [outS, List.length_append] at hs
        have g2 : (varV a[i].1 ++ varV ((a[i].2.1.length : Nat) : Int)).length + a[i].2.1.length ≤ LIM := by rw [List.length_append]; omega
        have g3 : s.length + ((varV a[i].1 ++ varV ((a[i].2.1.length : Nat) : Int)) ++ a[i].2.1).length ≤ LIM := by rw [List.length_append, List.length_append]; omega
        simp only [f43_L0, Out.eval, lt_t hi, ge0, nth_get hi, varsV_two, Option.bind_some, cond_true, decide_eq_true g2, decide_eq_true g3, w1, outS]
        simp only [List.append_assoc])
      (fun s => by simp [f43_L0, Out.eval]) ha ([116] ++ varV q ++ varV ((a.length : Nat) : Int)) (by rw [LIM_eq]; omega)
    rw [List.append_assoc] at this
    refine (eval_get_some this).trans ?_
    rw [← List.append_assoc, fixed_crc]
    have g : (sumS (txnS q a)).length + (txnS q a).length ≤ LIM := by rw [LIM_eq, sumS_len]; unfold txnS; rw [List.length_append]; omega
    exact (eval_get_some rfl).trans ((eval_ite_t (decide_eq_true g)).trans rfl)
  · rw [eval_ite_t (by simp [h]), if_neg h]; rfl

end Go.Proofs.Ytjcinikojcfebaa.Dm
