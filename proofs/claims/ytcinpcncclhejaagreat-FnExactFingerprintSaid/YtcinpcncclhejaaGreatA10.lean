/- Functions of the program, and what they compute. -/
import Derived.Test.YtcinpcncclhejaaGreatA9
namespace Go.Proofs.YtcinpcncclhejaaGreat.Dm
open Go Go.ChangeShapes Go.WideShapes Go.ChangeAt Go.RowKit

/-! ## Right files, told -/
def f138_tree (a0 : Int) : Out (((Bool × Unit) × Unit) × (Unit × Unit)) :=
 .ret ((((inV a0 (-1000000 : Int) (1000000 : Int)), ()), ()), ((), ()))
def k138 : Con := { f := 138, lend := true, its := [⟨false, false, [.i .i64]⟩], lay := [none], rs := [⟨false, false, [.b]⟩], F := fun x => .ret ((((wordV x.1.1), ()), ()), ((), ())) }
theorem f138_eq (x : itemsD k138.its) : bodyOut (cxOf [k82]) (fun _ => none) (codeOf Tryz.f138) k138.its k138.lay Tryz.f138.ntmps k138.rs [.tmp 2] x = f138_tree x.1.1 := by kernel_rfl
theorem f138_ok (hr : ∀ x : (Int × Unit) × Unit, itemsWF k138.its x → (f138_tree x.1.1).eval = (k138.F x).eval) : k138.Ok Tryz.prog :=
  con_fn [k82] ⟨k82_ok, trivial⟩ (by kernel_rfl) (codeOf_eq (by kernel_rfl)) (by kernel_rfl) (by kernel_rfl) (by kernel_rfl) f138_eq fun x hw _ hy => (hr x hw).trans hy
theorem k138_ok : k138.Ok Tryz.prog := f138_ok fun _ _ => rfl
abbrev f84_S0 := (List (Int) × Int × Unit) × (Unit)
def f84_L0 (x : f84_S0) : Out (Round f84_S0 ((Unit) × (Unit)) ((Bool × Unit) × (Unit))) :=
 .ite (decide (x.1.2.1 < ((List.length x.1.1 : Nat) : Int)))
 (.ite (decide (0 ≤ x.1.2.1))
 (.get (nth x.1.1 (Int.toNat x.1.2.1)) fun y1 =>
 .ite (!(wordV y1))
 (.ret (.ret ((false, ()), ())))
 (.ret (.again ((x.1.1, (IntKind.i64.wrap (x.1.2.1 + (1 : Int))), ()), ()))))
 .fail)
 (.ret (.out ((), ())))
def f84_tree (a0 : List Int) : Out (((Bool × Unit) × Unit) × (Unit × Unit)) :=
 .get (iter f84_L0 FUEL ((a0, (0 : Int), ()), ())) fun y1 => .alt y1 (fun y2 =>
 .ret (((true, ()), ()), ((), ()))) (fun y3 =>
 .ret (((y3.1.1, ()), ()), ((), ())))
def f84_A : Nat → Option LoopAnn := fun n => annOf [(0, { head := { t := [.ro (.int .i64) (some 0), .dead, .dead, .i .i64] ++ dd 12, v := [] }, out := { t := dd 16, v := [] }, ret := some { t := [.dead, .dead, .b] ++ dd 13, v := [] } })] n
def k84 : Con := { f := 84, lend := true, its := [⟨false, false, [.ro (.int .i64)]⟩], lay := [none], rs := [⟨false, false, [.b]⟩], F := fun x => .ret ((((wordsOkV x.1.1), ()), ()), ((), ())) }
theorem f84_eq (x : itemsD k84.its) : bodyOut (cxOf [k138]) (f84_A) (codeOf Tryz.f84) k84.its k84.lay Tryz.f84.ntmps k84.rs [.tmp 2] x = f84_tree x.1.1 := by kernel_rfl
theorem f84_ok (hr : ∀ x : (List Int × Unit) × Unit, itemsWF k84.its x → (f84_tree x.1.1).eval = (k84.F x).eval) : k84.Ok Tryz.prog :=
  con_fn [k138] ⟨k138_ok, trivial⟩ (by kernel_rfl) (codeOf_eq (by kernel_rfl)) (by kernel_rfl) (by kernel_rfl) (by kernel_rfl) f84_eq fun x hw _ hy => (hr x hw).trans hy
theorem k84_ok : k84.Ok Tryz.prog := by
  refine f84_ok fun x hw => ?_
  obtain ⟨⟨a, _⟩, _⟩ := x
  have ha : a.length ≤ BIG := hw.1.1.1
  show (f84_tree a).eval = some (((wordsOkV a, ()), ()), ((), ()))
  unfold f84_tree wordsOkV
  have := all_loop (f := f84_L0) a wordV (fun i => ((a, (((i : Nat) : Int), ())), ())) (y := ((), ())) (z := ((false, ()), ()))
    (fun i hi hp => by
      have g1 := wrap_succ (i := i) (by omega)
      simp [f84_L0, Out.eval, hi, g1, hp])
    (fun i hi hp => by simp [f84_L0, Out.eval, hi, hp])
    (by simp [f84_L0, Out.eval]) ha
  refine (eval_get_some this).trans ?_
  cases a.all wordV <;> rfl
def f148_tree (a0 : Int) : Out (((Bool × Unit) × Unit) × (Unit × Unit)) :=
 .ret ((((inV a0 (-1000000 : Int) (1000000 : Int)), ()), ()), ((), ()))
def k148 : Con := { f := 148, lend := true, its := [⟨false, false, [.i .i64]⟩], lay := [none], rs := [⟨false, false, [.b]⟩], F := fun x => .ret ((((wordV x.1.1), ()), ()), ((), ())) }
theorem f148_eq (x : itemsD k148.its) : bodyOut (cxOf [k96]) (fun _ => none) (codeOf Tryz.f148) k148.its k148.lay Tryz.f148.ntmps k148.rs [.tmp 2] x = f148_tree x.1.1 := by kernel_rfl
theorem f148_ok (hr : ∀ x : (Int × Unit) × Unit, itemsWF k148.its x → (f148_tree x.1.1).eval = (k148.F x).eval) : k148.Ok Tryz.prog :=
  con_fn [k96] ⟨k96_ok, trivial⟩ (by kernel_rfl) (codeOf_eq (by kernel_rfl)) (by kernel_rfl) (by kernel_rfl) (by kernel_rfl) f148_eq fun x hw _ hy => (hr x hw).trans hy
theorem k148_ok : k148.Ok Tryz.prog := f148_ok fun _ _ => rfl
def f147_tree (a0 : Int) : Out (((Bool × Unit) × Unit) × (Unit × Unit)) :=
 .ret ((((!(wordV a0)), ()), ()), ((), ()))
def notWordV (n : Int) : Bool := !wordV n
def k147 : Con := { f := 147, lend := true, its := [⟨false, false, [.i .i64]⟩], lay := [none], rs := [⟨false, false, [.b]⟩], F := fun x => .ret ((((notWordV x.1.1), ()), ()), ((), ())) }
theorem f147_eq (x : itemsD k147.its) : bodyOut (cxOf [k148]) (fun _ => none) (codeOf Tryz.f147) k147.its k147.lay Tryz.f147.ntmps k147.rs [.tmp 2] x = f147_tree x.1.1 := by kernel_rfl
theorem f147_ok (hr : ∀ x : (Int × Unit) × Unit, itemsWF k147.its x → (f147_tree x.1.1).eval = (k147.F x).eval) : k147.Ok Tryz.prog :=
  con_fn [k148] ⟨k148_ok, trivial⟩ (by kernel_rfl) (codeOf_eq (by kernel_rfl)) (by kernel_rfl) (by kernel_rfl) (by kernel_rfl) f147_eq fun x hw _ hy => (hr x hw).trans hy
theorem k147_ok : k147.Ok Tryz.prog := f147_ok fun _ _ => rfl
abbrev f179_S0 := (List (Int) × Int × Int × Unit) × (Unit)
def f179_L0 (x : f179_S0) : Out (Round f179_S0 ((Unit) × (Unit)) ((Int × Unit) × (Unit))) :=
 .ite (decide (x.1.2.2.1 < x.1.2.1))
 (.ite (decide (0 ≤ x.1.2.2.1))
 (.get (nth x.1.1 (Int.toNat x.1.2.2.1)) fun y1 =>
 .ite (notWordV y1)
 (.ret (.ret ((x.1.2.2.1, ()), ())))
 (.ret (.again ((x.1.1, x.1.2.1, (IntKind.i64.wrap (x.1.2.2.1 + (1 : Int))), ()), ()))))
 .fail)
 (.ret (.out ((), ())))
def f179_tree (a0 : List Int) : Out (((Int × Unit) × Unit) × (Unit × Unit)) :=
 .get (iter f179_L0 FUEL ((a0, ((List.length a0 : Nat) : Int), (0 : Int), ()), ())) fun y1 => .alt y1 (fun y2 =>
 .ret ((((-1 : Int), ()), ()), ((), ()))) (fun y3 =>
 .ret (((y3.1.1, ()), ()), ((), ())))
def f179_A : Nat → Option LoopAnn := fun n => annOf [(0, { head := { t := [.ro (.int .i64) (some 0), .fn 147 []] ++ dd 5 ++ [.i .i64, .i .i64] ++ dd 10, v := [] }, out := { t := dd 19, v := [] }, ret := some { t := dd 4 ++ [.i .i64] ++ dd 14, v := [] } })] n
def indexWordV (a : List Int) : Int := idxV (a.findIdx? notWordV)
def k179 : Con := { f := 179, lend := true, its := [⟨false, false, [.ro (.int .i64)]⟩], lay := [none, some (147, 0)], rs := [⟨false, false, [.i .i64]⟩], F := fun x => .ret ((((indexWordV x.1.1), ()), ()), ((), ())) }
theorem f179_eq (x : itemsD k179.its) : bodyOut (cxOf [k147]) (f179_A) (codeOf Tryz.f179) k179.its k179.lay Tryz.f179.ntmps k179.rs [.tmp 4] x = f179_tree x.1.1 := by kernel_rfl
theorem f179_ok (hr : ∀ x : (List Int × Unit) × Unit, itemsWF k179.its x → (f179_tree x.1.1).eval = (k179.F x).eval) : k179.Ok Tryz.prog :=
  con_fn [k147] ⟨k147_ok, trivial⟩ (by kernel_rfl) (codeOf_eq (by kernel_rfl)) (by kernel_rfl) (by kernel_rfl) (by kernel_rfl) f179_eq fun x hw _ hy => (hr x hw).trans hy
theorem k179_ok : k179.Ok Tryz.prog := by
  refine f179_ok fun x hw => ?_
  obtain ⟨⟨a, _⟩, _⟩ := x
  have ha : a.length ≤ BIG := hw.1.1.1
  show (f179_tree a).eval = some (((indexWordV a, ()), ()), ((), ()))
  unfold f179_tree indexWordV
  have := idx_loop (f := f179_L0) a notWordV (fun i => ((a, (((a.length : Nat) : Int), (((i : Nat) : Int), ()))), ())) (y := ((), ())) (z := fun i => ((((i : Nat) : Int), ()), ()))
    (fun i hi hp => by
      have g1 := wrap_succ (i := i) (by omega)
      simp [f179_L0, Out.eval, hi, g1, hp])
    (fun i hi hp => by simp [f179_L0, Out.eval, hi, hp])
    (by simp [f179_L0, Out.eval]) ha
  refine (eval_get_some this).trans ?_
  cases a.findIdx? notWordV <;> rfl
def f146_tree (a0 : List Int) : Out (((Bool × Unit) × Unit) × (Unit × Unit)) :=
 .ret ((((decide ((indexWordV a0) ≥ (0 : Int))), ()), ()), ((), ()))
def anyWordV (a : List Int) : Bool := a.any notWordV
def k146 : Con := { f := 146, lend := true, its := [⟨false, false, [.ro (.int .i64)]⟩], lay := [none, some (147, 0)], rs := [⟨false, false, [.b]⟩], F := fun x => .ret ((((anyWordV x.1.1), ()), ()), ((), ())) }
theorem f146_eq (x : itemsD k146.its) : bodyOut (cxOf [k179]) (fun _ => none) (codeOf Tryz.f146) k146.its k146.lay Tryz.f146.ntmps k146.rs [.tmp 4] x = f146_tree x.1.1 := by kernel_rfl
theorem f146_ok (hr : ∀ x : (List Int × Unit) × Unit, itemsWF k146.its x → (f146_tree x.1.1).eval = (k146.F x).eval) : k146.Ok Tryz.prog :=
  con_fn [k179] ⟨k179_ok, trivial⟩ (by kernel_rfl) (codeOf_eq (by kernel_rfl)) (by kernel_rfl) (by kernel_rfl) (by kernel_rfl) f146_eq fun x hw _ hy => (hr x hw).trans hy
theorem k146_ok : k146.Ok Tryz.prog := by
  refine f146_ok fun x _ => ?_
  obtain ⟨⟨a, _⟩, _⟩ := x
  show (f146_tree a).eval = some (((anyWordV a, ()), ()), ((), ()))
  unfold f146_tree anyWordV indexWordV
  rw [idxV_ge]
  rfl
def f97_tree (a0 : List Int) : Out (((Bool × Unit) × Unit) × (Unit × Unit)) :=
 .ret ((((!(anyWordV a0)), ()), ()), ((), ()))
def k97 : Con := { f := 97, lend := true, its := [⟨false, false, [.ro (.int .i64)]⟩], lay := [none], rs := [⟨false, false, [.b]⟩], F := fun x => .ret ((((wordsOkV x.1.1), ()), ()), ((), ())) }
theorem f97_eq (x : itemsD k97.its) : bodyOut (cxOf [k146]) (fun _ => none) (codeOf Tryz.f97) k97.its k97.lay Tryz.f97.ntmps k97.rs [.tmp 2] x = f97_tree x.1.1 := by kernel_rfl
theorem f97_ok (hr : ∀ x : (List Int × Unit) × Unit, itemsWF k97.its x → (f97_tree x.1.1).eval = (k97.F x).eval) : k97.Ok Tryz.prog :=
  con_fn [k146] ⟨k146_ok, trivial⟩ (by kernel_rfl) (codeOf_eq (by kernel_rfl)) (by kernel_rfl) (by kernel_rfl) (by kernel_rfl) f97_eq fun x hw _ hy => (hr x hw).trans hy
theorem k97_ok : k97.Ok Tryz.prog := by
  refine f97_ok fun x _ => ?_
  obtain ⟨⟨a, _⟩, _⟩ := x
  show (f97_tree a).eval = some (((wordsOkV a, ()), ()), ((), ()))
  have : (!anyWordV a) = wordsOkV a := not_any a wordV
  rw [← this]; rfl
abbrev f105_S0 := (List ((Int × List Int × Unit)) × List ((Int × List Int × Unit)) × Int × Int × Unit) × (Unit)
def f105_L0 (x : f105_S0) : Out (Round f105_S0 ((List ((Int × List Int × Unit)) × Unit) × (Unit)) ((Bool × Unit) × (Unit))) :=
 .ite (decide (x.1.2.2.2.1 < x.1.2.2.1))
 (.ite (decide (0 ≤ x.1.2.2.2.1))
 (.get (nth x.1.2.1 (Int.toNat x.1.2.2.2.1)) fun y1 =>
 .ite ((!(inV y1.1 (0 : Int) (5 : Int))) == false)
 (.ite ((decide (x.1.2.2.2.1 > (0 : Int))) == true)
 (.ite (decide (0 ≤ (IntKind.i64.wrap (x.1.2.2.2.1 - (1 : Int)))))
 (.get (nth x.1.1 (Int.toNat (IntKind.i64.wrap (x.1.2.2.2.1 - (1 : Int))))) fun y2 =>
 .ite ((decide (y2.1 ≥ y1.1)) == false)
 (.ite ((decide (((List.length y1.2.1 : Nat) : Int) > (8 : Int))) == false)
 (.ite (!(wordsOkV y1.2.1))
 (.ret (.ret ((false, ()), ())))
 (.ret (.again ((x.1.1, x.1.2.1, x.1.2.2.1, (IntKind.i64.wrap (x.1.2.2.2.1 + (1 : Int))), ()), ()))))
 (.ret (.ret ((false, ()), ()))))
 (.ret (.ret ((false, ()), ()))))
 .fail)
 (.ite ((decide (((List.length y1.2.1 : Nat) : Int) > (8 : Int))) == false)
 (.ite (!(wordsOkV y1.2.1))
 (.ret (.ret ((false, ()), ())))
 (.ret (.again ((x.1.1, x.1.2.1, x.1.2.2.1, (IntKind.i64.wrap (x.1.2.2.2.1 + (1 : Int))), ()), ()))))
 (.ret (.ret ((false, ()), ())))))
 (.ret (.ret ((false, ()), ()))))
 .fail)
 (.ret (.out ((x.1.1, ()), ())))
def f105_tree (a0 : List (Int × List Int × Unit)) : Out (((Bool × Unit) × Unit) × (Unit × Unit)) :=
 .get (iter f105_L0 FUEL ((a0, a0, ((List.length a0 : Nat) : Int), (0 : Int), ()), ())) fun y1 => .alt y1 (fun y2 =>
 .ret ((((decide (((List.length y2.1.1 : Nat) : Int) ≤ (6 : Int))), ()), ()), ((), ()))) (fun y3 =>
 .ret (((y3.1.1, ()), ()), ((), ())))
def f105_A : Nat → Option LoopAnn := fun n => annOf [(0, { head := { t := [.ro (.st (.cons (.int .i64) (.cons (.sl (.int .i64)) .nil))) (some 0)] ++ dd 4 ++ [.ro (.st (.cons (.int .i64) (.cons (.sl (.int .i64)) .nil))) (some 0), .i .i64, .i .i64] ++ dd 39, v := [] }, out := { t := [.ro (.st (.cons (.int .i64) (.cons (.sl (.int .i64)) .nil))) (some 0)] ++ dd 46, v := [] }, ret := some { t := [.dead, .dead, .b] ++ dd 44, v := [] } })] n
def k105 : Con := { f := 105, lend := true, its := [⟨false, false, [.ro (.st (.cons (.int .i64) (.cons (.sl (.int .i64)) .nil)))]⟩], lay := [none], rs := [⟨false, false, [.b]⟩], F := fun x => .ret ((((filesOkV x.1.1), ()), ()), ((), ())) }
theorem f105_eq (x : itemsD k105.its) : bodyOut (cxOf [k96, k97]) (f105_A) (codeOf Tryz.f105) k105.its k105.lay Tryz.f105.ntmps k105.rs [.tmp 2] x = f105_tree x.1.1 := by kernel_rfl
theorem f105_ok (hr : ∀ x : (List (Int × List Int × Unit) × Unit) × Unit, itemsWF k105.its x → (f105_tree x.1.1).eval = (k105.F x).eval) : k105.Ok Tryz.prog :=
  con_fn [k96, k97] ⟨k96_ok, k97_ok, trivial⟩ (by kernel_rfl) (codeOf_eq (by kernel_rfl)) (by kernel_rfl) (by kernel_rfl) (by kernel_rfl) f105_eq fun x hw _ hy => (hr x hw).trans hy
theorem k105_ok : k105.Ok Tryz.prog := by
  refine f105_ok fun x hw => ?_
  obtain ⟨⟨a, _⟩, _⟩ := x
  have ha : a.length ≤ BIG := hw.1.1.1
  show (f105_tree a).eval = some (((filesOkV a, ()), ()), ((), ()))
  unfold f105_tree filesOkV
  have key : ∀ i (hi : i < a.length), (f105_L0 ((a, (a, (((a.length : Nat) : Int), (((i : Nat) : Int), ())))), ())).eval = some (bif fileRowV a i then .again ((a, (a, (((a.length : Nat) : Int), (((i + 1 : Nat) : Int), ())))), ()) else .ret ((false, ()), ())) := fun i hi => by
    have w1 := wrap_succ (i := i) (by omega)
    have g : decide (((a[i].2.1.length : Nat) : Int) > (8 : Int)) = !decide (a[i].2.1.length ≤ 8) := gt_cast (m := 8)
    cases i with
    | zero =>
      rw [fileRowV_zero hi]
      have w3 : decide (((0 : Nat) : Int) > 0) = false := rfl
      unfold file1V
      simp only [f105_L0, Out.eval, lt_t hi, ge0, nth_get hi, Option.bind_some, cond_true, w3, g, w1]
      cases p1 : inV a[0].1 0 5 <;> cases p2 : decide (a[0].2.1.length ≤ 8) <;> cases p3 : wordsOkV a[0].2.1 <;> rfl
    | succ i =>
      rw [fileRowV_succ hi]
      have w2 := wrap_pred i (by omega)
      have w3 : decide (((i + 1 : Nat) : Int) > 0) = true := decide_eq_true (by omega)
      unfold file1V
      simp only [f105_L0, Out.eval, lt_t hi, ge0, nth_get hi, nth_get (show i < a.length by omega), w1, w2, w3, g, not_ge, Option.bind_some, cond_true]
      cases p1 : inV a[i + 1].1 0 5 <;> cases p2 : decide (a[i].1 < a[i + 1].1) <;> cases p3 : decide (a[i + 1].2.1.length ≤ 8) <;> cases p4 : wordsOkV a[i + 1].2.1 <;> rfl
  have := iter_scan (f := f105_L0) (fun i => ((a, (a, (((a.length : Nat) : Int), (((i : Nat) : Int), ())))), ())) (fileRowV a) a.length (y := ((a, ()), ())) (z := ((false, ()), ())) (lt_fuel ha)
    (fun i hi hp => by rw [key i hi, hp]; rfl) (fun i hi hp => by rw [key i hi, hp]; rfl) (by simp [f105_L0, Out.eval])
  refine (eval_get_some this).trans ?_
  have e2 : decide (((a.length : Nat) : Int) ≤ (6 : Int)) = decide (a.length ≤ 6) := le_cast (m := 6)
  cases (List.range a.length).all (fileRowV a)
  · rw [Bool.and_false]; rfl
  · rw [Bool.and_true, ← e2]; rfl
/-! ## Files as texts, told -/
def f167_tree (a0 : Int) : Out (((Int × Unit) × Unit) × (Unit × Unit)) :=
 .ite (decide (a0 < (0 : Int)))
 (.ret ((((IntKind.i64.wrap ((IntKind.i64.wrap ((-2 : Int) * a0)) - (1 : Int))), ()), ()), ((), ())))
 (.ret ((((IntKind.i64.wrap ((2 : Int) * a0)), ()), ()), ((), ())))
def k167 : Con := { f := 167, lend := true, its := [⟨false, false, [.i .i64]⟩], lay := [none], rs := [⟨false, false, [.i .i64]⟩], F := fun x => .ret ((((zigV x.1.1), ()), ()), ((), ())) }
theorem f167_eq (x : itemsD k167.its) : bodyOut (cxOf []) (fun _ => none) (codeOf Tryz.f167) k167.its k167.lay Tryz.f167.ntmps k167.rs [.tmp 2] x = f167_tree x.1.1 := by kernel_rfl
theorem f167_ok (hr : ∀ x : (Int × Unit) × Unit, itemsWF k167.its x → (f167_tree x.1.1).eval = (k167.F x).eval) : k167.Ok Tryz.prog :=
  con_fn [] trivial (by kernel_rfl) (codeOf_eq (by kernel_rfl)) (by kernel_rfl) (by kernel_rfl) (by kernel_rfl) f167_eq fun x hw _ hy => (hr x hw).trans hy
theorem k167_ok : k167.Ok Tryz.prog := by
  refine f167_ok fun x _ => ?_
  obtain ⟨⟨n, _⟩, _⟩ := x
  show (f167_tree n).eval = some (((zigV n, ()), ()), ((), ()))
  unfold f167_tree zigV
  by_cases h : n < 0
  · rw [eval_ite_t (decide_eq_true h), if_pos h]; rfl
  · rw [eval_ite_f (decide_eq_false h), if_neg h]; rfl
abbrev f118_S0 := (List (Int) × List UInt8 × Int × Unit) × (Unit)
def f118_L0 (x : f118_S0) : Out (Round f118_S0 ((List UInt8 × Unit) × (Unit)) Empty) :=
 .ite (decide (x.1.2.2.1 < ((List.length x.1.1 : Nat) : Int)))
 (.ite (decide (0 ≤ x.1.2.2.1))
 (.get (nth x.1.1 (Int.toNat x.1.2.2.1)) fun y1 =>
 .ite (decide (List.length x.1.2.1 + List.length (varV (zigV y1)) ≤ LIM))
 (.ret (.again ((x.1.1, (x.1.2.1 ++ (varV (zigV y1))), (IntKind.i64.wrap (x.1.2.2.1 + (1 : Int))), ()), ())))
 .fail)
 .fail)
 (.ret (.out ((x.1.2.1, ()), ())))
def f118_tree (a0 : List Int) : Out (((List UInt8 × Unit) × Unit) × (Unit × Unit)) :=
 .get (iter1 f118_L0 FUEL ((a0, (varV ((List.length a0 : Nat) : Int)), (0 : Int), ()), ())) fun y1 =>
 .ret (((y1.1.1, ()), ()), ((), ()))
def f118_A : Nat → Option LoopAnn := fun n => annOf [(0, { head := { t := [.ro (.int .i64) (some 0), .dead, .dead, .s, .i .i64] ++ dd 18, v := [] }, out := { t := [.dead, .dead, .dead, .s] ++ dd 19, v := [] }, ret := none })] n
def wordsTV (l : List Int) : Option Str := lim (wordsS l) (wordsS l)
def k118 : Con := { f := 118, lend := true, its := [⟨false, false, [.ro (.int .i64)]⟩], lay := [none], rs := [⟨false, false, [.s]⟩], F := fun x => .get (wordsTV x.1.1) fun y => .ret (((y, ()), ()), ((), ())) }
theorem f118_eq (x : itemsD k118.its) : bodyOut (cxOf [k115, k167]) (f118_A) (codeOf Tryz.f118) k118.its k118.lay Tryz.f118.ntmps k118.rs [.tmp 2] x = f118_tree x.1.1 := by kernel_rfl
theorem f118_okp (hr : ∀ x : (List Int × Unit) × Unit, itemsWF k118.its x → ∀ y, (k118.F x).eval = some y → (f118_tree x.1.1).eval = some y) : k118.Ok Tryz.prog :=
  con_fn [k115, k167] ⟨k115_ok, k167_ok, trivial⟩ (by kernel_rfl) (codeOf_eq (by kernel_rfl)) (by kernel_rfl) (by kernel_rfl) (by kernel_rfl) f118_eq hr
theorem k118_ok : k118.Ok Tryz.prog := by
  refine f118_okp fun x hw y hy => ?_
  obtain ⟨⟨a, _⟩, _⟩ := x
  have ha : a.length ≤ BIG := hw.1.1.1
  change (Out.get (wordsTV a) fun y => Out.ret (((y, ()), ()), ((), ()))).eval = some y at hy
  show (f118_tree a).eval = some y
  unfold f118_tree
  unfold wordsTV at hy
  by_cases hl : (wordsS a).length ≤ LIM
  · rw [lim_some hl] at hy
    refine Eq.trans ?_ hy
    have := flat_loop (f := f118_L0) (fun n => varV (zigV n)) a (fun s i => ((a, (s, (((i : Nat) : Int), ()))), ())) (fun s => ((s, ()), ())) LIM
      (fun i hi s hs => by
        have w1 := wrap_succ (i := i) (by omega)
        simp only [f118_L0, Out.eval, lt_t hi, ge0, nth_get hi, Option.bind_some, cond_true, decide_eq_true hs, w1])
      (fun s => by simp [f118_L0, Out.eval]) ha (varV ((a.length : Nat) : Int)) (by unfold wordsS at hl; rw [List.length_append] at hl; exact hl)
    exact (eval_get_some this).trans rfl
  · rw [lim_not hl] at hy; exact nomatch hy
def f169_tree (a0 : Int) : Out (((List UInt8 × Unit) × Unit) × (Unit × Unit)) :=
 .ite (decide (a0 < (0 : Int)))
 (.ret ((((varV (IntKind.i64.wrap ((IntKind.i64.wrap ((-2 : Int) * a0)) - (1 : Int)))), ()), ()), ((), ())))
 (.ret ((((varV (IntKind.i64.wrap ((2 : Int) * a0))), ()), ()), ((), ())))
def wordVarV (n : Int) : Str := varV (zigV n)
def k169 : Con := { f := 169, lend := true, its := [⟨false, false, [.i .i64]⟩], lay := [none], rs := [⟨false, false, [.s]⟩], F := fun x => .ret ((((wordVarV x.1.1), ()), ()), ((), ())) }
theorem f169_eq (x : itemsD k169.its) : bodyOut (cxOf [k121]) (fun _ => none) (codeOf Tryz.f169) k169.its k169.lay Tryz.f169.ntmps k169.rs [.tmp 2] x = f169_tree x.1.1 := by kernel_rfl
theorem f169_ok (hr : ∀ x : (Int × Unit) × Unit, itemsWF k169.its x → (f169_tree x.1.1).eval = (k169.F x).eval) : k169.Ok Tryz.prog :=
  con_fn [k121] ⟨k121_ok, trivial⟩ (by kernel_rfl) (codeOf_eq (by kernel_rfl)) (by kernel_rfl) (by kernel_rfl) (by kernel_rfl) f169_eq fun x hw _ hy => (hr x hw).trans hy
theorem k169_ok : k169.Ok Tryz.prog := by
  refine f169_ok fun x _ => ?_
  obtain ⟨⟨n, _⟩, _⟩ := x
  show (f169_tree n).eval = some (((wordVarV n, ()), ()), ((), ()))
  unfold f169_tree wordVarV zigV
  by_cases h : n < 0
  · rw [eval_ite_t (decide_eq_true h), if_pos h]; rfl
  · rw [eval_ite_f (decide_eq_false h), if_neg h]; rfl
abbrev f122_S0 := (List UInt8 × List (Int) × Int × Int × Unit) × (Unit)
def f122_L0 (x : f122_S0) : Out (Round f122_S0 ((List UInt8 × Unit) × (Unit)) Empty) :=
 .ite (decide (x.1.2.2.2.1 < x.1.2.2.1))
 (.ite (decide (0 ≤ x.1.2.2.2.1))
 (.get (nth x.1.2.1 (Int.toNat x.1.2.2.2.1)) fun y1 =>
 .ite (decide (List.length x.1.1 + List.length (wordVarV y1) ≤ LIM))
 (.ret (.again (((x.1.1 ++ (wordVarV y1)), x.1.2.1, x.1.2.2.1, (IntKind.i64.wrap (x.1.2.2.2.1 + (1 : Int))), ()), ())))
 .fail)
 .fail)
 (.ret (.out ((x.1.1, ()), ())))
def f122_tree (a0 : List Int) : Out (((List UInt8 × Unit) × Unit) × (Unit × Unit)) :=
 .get (iter1 f122_L0 FUEL (((varV ((List.length a0 : Nat) : Int)), a0, ((List.length a0 : Nat) : Int), (0 : Int), ()), ())) fun y1 =>
 .ret (((y1.1.1, ()), ()), ((), ()))
def f122_A : Nat → Option LoopAnn := fun n => annOf [(0, { head := { t := [.dead, .dead, .dead, .s] ++ dd 5 ++ [.ro (.int .i64) (some 0), .i .i64, .i .i64] ++ dd 9, v := [] }, out := { t := [.dead, .dead, .dead, .s] ++ dd 17, v := [] }, ret := none })] n
def k122 : Con := { f := 122, lend := true, its := [⟨false, false, [.ro (.int .i64)]⟩], lay := [none], rs := [⟨false, false, [.s]⟩], F := fun x => .get (wordsTV x.1.1) fun y => .ret (((y, ()), ()), ((), ())) }
theorem f122_eq (x : itemsD k122.its) : bodyOut (cxOf [k121, k169]) (f122_A) (codeOf Tryz.f122) k122.its k122.lay Tryz.f122.ntmps k122.rs [.tmp 2] x = f122_tree x.1.1 := by kernel_rfl
theorem f122_okp (hr : ∀ x : (List Int × Unit) × Unit, itemsWF k122.its x → ∀ y, (k122.F x).eval = some y → (f122_tree x.1.1).eval = some y) : k122.Ok Tryz.prog :=
  con_fn [k121, k169] ⟨k121_ok, k169_ok, trivial⟩ (by kernel_rfl) (codeOf_eq (by kernel_rfl)) (by kernel_rfl) (by kernel_rfl) (by kernel_rfl) f122_eq hr
theorem k122_ok : k122.Ok Tryz.prog := by
  refine f122_okp fun x hw y hy => ?_
  obtain ⟨⟨a, _⟩, _⟩ := x
  have ha : a.length ≤ BIG := hw.1.1.1
  change (Out.get (wordsTV a) fun y => Out.ret (((y, ()), ()), ((), ()))).eval = some y at hy
  show (f122_tree a).eval = some y
  unfold f122_tree
  unfold wordsTV at hy
  by_cases hl : (wordsS a).length ≤ LIM
  · rw [lim_some hl] at hy
    refine Eq.trans ?_ hy
    have := flat_loop (f := f122_L0) wordVarV a (fun s i => ((s, (a, (((a.length : Nat) : Int), (((i : Nat) : Int), ())))), ())) (fun s => ((s, ()), ())) LIM
      (fun i hi s hs => by
        have w1 := wrap_succ (i := i) (by omega)
        simp only [f122_L0, Out.eval, lt_t hi, ge0, nth_get hi, Option.bind_some, cond_true, decide_eq_true hs, w1])
      (fun s => by simp [f122_L0, Out.eval]) ha (varV ((a.length : Nat) : Int)) (by unfold wordsS at hl; rw [List.length_append] at hl; exact hl)
    exact (eval_get_some this).trans rfl
  · rw [lim_not hl] at hy; exact nomatch hy
end Go.Proofs.YtcinpcncclhejaaGreat.Dm
