/- Functions of the program, and what they compute. -/
import Derived.Test.YtcpjdjgipmjhdaaGreatA9
namespace Go.Proofs.YtcpjdjgipmjhdaaGreat.Dm
open Go Go.ChangeShapes Go.WideShapes Go.ChangeAt Go.RowKit
def f105_tree (a0 : Int) : Out (((Bool × Unit) × Unit) × (Unit × Unit)) :=
 .ret ((((inV a0 (-1000000 : Int) (1000000 : Int)), ()), ()), ((), ()))
def k105 : Con := { f := 105, lend := true, its := [⟨false, false, [.i .i64]⟩], lay := [none], rs := [⟨false, false, [.b]⟩], F := fun x => .ret ((((wordV x.1.1), ()), ()), ((), ())) }
theorem f105_eq (x : itemsD k105.its) : bo [k70] (fun _ => none) Tryz.f105 k105 [.tmp 2] x = f105_tree x.1.1 := by kernel_rfl
theorem f105_ok (hr : ∀ x : (Int × Unit) × Unit, itemsWF k105.its x → (f105_tree x.1.1).eval = (k105.F x).eval) : k105.Ok Tryz.prog := con_fn [k70] ⟨k70_ok, trivial⟩ f105_eq fun x hw _ hy => (hr x hw).trans hy
theorem k105_ok : k105.Ok Tryz.prog := f105_ok fun _ _ => rfl
abbrev f76_S0 := (List (Int) × Int × Unit) × (Unit)
def f76_L0 : f76_S0 → Out (Round f76_S0 ((Unit) × (Unit)) ((Bool × Unit) × (Unit)))
| ((p0, p1, _), _) =>
 .ite (decide (p1 < ((List.length p0 : Nat) : Int)))
 (.ite (decide (0 ≤ p1))
 (.get (nth p0 (Int.toNat p1)) fun y1 =>
 .ite (!(wordV y1))
 (.ret (.ret ((false, ()), ())))
 (.ret (.again ((p0, (IntKind.i64.wrap (p1 + (1 : Int))), ()), ()))))
 .fail)
 (.ret (.out ((), ())))
def f76_tree (a0 : List Int) : Out (((Bool × Unit) × Unit) × (Unit × Unit)) :=
 .get (iter f76_L0 FUEL ((a0, (0 : Int), ()), ())) fun y1 => .alt y1 (fun y2 =>
 .ret (((true, ()), ()), ((), ()))) (fun y3 =>
 .ret (((y3.1.1, ()), ()), ((), ())))
def f76_A : Nat → Option LoopAnn := fun n => annOf [(0, { head := { t := [.ro (.int .i64) (some 0), .dead, .dead, .i .i64] ++ dd 12, v := [] }, out := { t := dd 16, v := [] }, ret := some { t := [.dead, .dead, .b] ++ dd 13, v := [] } })] n
def k76 : Con := { f := 76, lend := true, its := [⟨false, false, [.ro (.int .i64)]⟩], lay := [none], rs := [⟨false, false, [.b]⟩], F := fun x => .ret ((((wordsOkV x.1.1), ()), ()), ((), ())) }
theorem f76_eq (x : itemsD k76.its) : bo [k105] f76_A Tryz.f76 k76 [.tmp 2] x = f76_tree x.1.1 := by kernel_rfl
theorem f76_ok (hr : ∀ x : (List Int × Unit) × Unit, itemsWF k76.its x → (f76_tree x.1.1).eval = (k76.F x).eval) : k76.Ok Tryz.prog := con_fn [k105] ⟨k105_ok, trivial⟩ f76_eq fun x hw _ hy => (hr x hw).trans hy
theorem k76_ok : k76.Ok Tryz.prog := by
  refine f76_ok fun x hw => ?_
  obtain ⟨⟨a, _⟩, _⟩ := x
  have ha : a.length ≤ BIG := hw.1.1.1
  show (f76_tree a).eval = some (((wordsOkV a, ()), ()), ((), ()))
  unfold f76_tree wordsOkV
  have := all_loop (f := f76_L0) a wordV (fun i => ((a, (((i : Nat) : Int), ())), ())) (y := ((), ())) (z := ((false, ()), ()))
    (fun i hi hp => by
      have g1 := wrap_succ (i := i) (by omega)
      simp [f76_L0, Out.eval, hi, g1, hp])
    (fun i hi hp => by simp [f76_L0, Out.eval, hi, hp])
    (by simp [f76_L0, Out.eval]) ha
  refine (eval_get_some this).trans ?_
  cases a.all wordV <;> rfl
def f119_tree (a0 : Int) : Out (((Bool × Unit) × Unit) × (Unit × Unit)) :=
 .ret ((((inV a0 (-1000000 : Int) (1000000 : Int)), ()), ()), ((), ()))
def k119 : Con := { f := 119, lend := true, its := [⟨false, false, [.i .i64]⟩], lay := [none], rs := [⟨false, false, [.b]⟩], F := fun x => .ret ((((wordV x.1.1), ()), ()), ((), ())) }
theorem f119_eq (x : itemsD k119.its) : bo [k88] (fun _ => none) Tryz.f119 k119 [.tmp 2] x = f119_tree x.1.1 := by kernel_rfl
theorem f119_ok (hr : ∀ x : (Int × Unit) × Unit, itemsWF k119.its x → (f119_tree x.1.1).eval = (k119.F x).eval) : k119.Ok Tryz.prog := con_fn [k88] ⟨k88_ok, trivial⟩ f119_eq fun x hw _ hy => (hr x hw).trans hy
theorem k119_ok : k119.Ok Tryz.prog := f119_ok fun _ _ => rfl
def f118_tree (a0 : Int) : Out (((Bool × Unit) × Unit) × (Unit × Unit)) :=
 .ret ((((!(wordV a0)), ()), ()), ((), ()))
def notWordV (n : Int) : Bool := !wordV n
def k118 : Con := { f := 118, lend := true, its := [⟨false, false, [.i .i64]⟩], lay := [none], rs := [⟨false, false, [.b]⟩], F := fun x => .ret ((((notWordV x.1.1), ()), ()), ((), ())) }
theorem f118_eq (x : itemsD k118.its) : bo [k119] (fun _ => none) Tryz.f118 k118 [.tmp 2] x = f118_tree x.1.1 := by kernel_rfl
theorem f118_ok (hr : ∀ x : (Int × Unit) × Unit, itemsWF k118.its x → (f118_tree x.1.1).eval = (k118.F x).eval) : k118.Ok Tryz.prog := con_fn [k119] ⟨k119_ok, trivial⟩ f118_eq fun x hw _ hy => (hr x hw).trans hy
theorem k118_ok : k118.Ok Tryz.prog := f118_ok fun _ _ => rfl
abbrev f143_S0 := (List (Int) × Int × Int × Unit) × (Unit)
def f143_L0 : f143_S0 → Out (Round f143_S0 ((Unit) × (Unit)) ((Int × Unit) × (Unit)))
| ((p0, p1, p2, _), _) =>
 .ite (decide (p2 < p1))
 (.ite (decide (0 ≤ p2))
 (.get (nth p0 (Int.toNat p2)) fun y1 =>
 .ite (notWordV y1)
 (.ret (.ret ((p2, ()), ())))
 (.ret (.again ((p0, p1, (IntKind.i64.wrap (p2 + (1 : Int))), ()), ()))))
 .fail)
 (.ret (.out ((), ())))
def f143_tree (a0 : List Int) : Out (((Int × Unit) × Unit) × (Unit × Unit)) :=
 .get (iter f143_L0 FUEL ((a0, ((List.length a0 : Nat) : Int), (0 : Int), ()), ())) fun y1 => .alt y1 (fun y2 =>
 .ret ((((-1 : Int), ()), ()), ((), ()))) (fun y3 =>
 .ret (((y3.1.1, ()), ()), ((), ())))
def f143_A : Nat → Option LoopAnn := fun n => annOf [(0, { head := { t := [.ro (.int .i64) (some 0), .fn 118 []] ++ dd 5 ++ [.i .i64, .i .i64] ++ dd 10, v := [] }, out := { t := dd 19, v := [] }, ret := some { t := dd 4 ++ [.i .i64] ++ dd 14, v := [] } })] n
def indexWordV (a : List Int) : Int := idxV (a.findIdx? notWordV)
def k143 : Con := { f := 143, lend := true, its := [⟨false, false, [.ro (.int .i64)]⟩], lay := [none, some (118, 0)], rs := [⟨false, false, [.i .i64]⟩], F := fun x => .ret ((((indexWordV x.1.1), ()), ()), ((), ())) }
theorem f143_eq (x : itemsD k143.its) : bo [k118] f143_A Tryz.f143 k143 [.tmp 4] x = f143_tree x.1.1 := by kernel_rfl
theorem f143_ok (hr : ∀ x : (List Int × Unit) × Unit, itemsWF k143.its x → (f143_tree x.1.1).eval = (k143.F x).eval) : k143.Ok Tryz.prog := con_fn [k118] ⟨k118_ok, trivial⟩ f143_eq fun x hw _ hy => (hr x hw).trans hy
theorem k143_ok : k143.Ok Tryz.prog := by
  refine f143_ok fun x hw => ?_
  obtain ⟨⟨a, _⟩, _⟩ := x
  have ha : a.length ≤ BIG := hw.1.1.1
  show (f143_tree a).eval = some (((indexWordV a, ()), ()), ((), ()))
  unfold f143_tree indexWordV
  have := idx_loop (f := f143_L0) a notWordV (fun i => ((a, (((a.length : Nat) : Int), (((i : Nat) : Int), ()))), ())) (y := ((), ())) (z := fun i => ((((i : Nat) : Int), ()), ()))
    (fun i hi hp => by
      have g1 := wrap_succ (i := i) (by omega)
      simp [f143_L0, Out.eval, hi, g1, hp])
    (fun i hi hp => by simp [f143_L0, Out.eval, hi, hp])
    (by simp [f143_L0, Out.eval]) ha
  refine (eval_get_some this).trans ?_
  cases a.findIdx? notWordV <;> rfl
def f117_tree (a0 : List Int) : Out (((Bool × Unit) × Unit) × (Unit × Unit)) :=
 .ret ((((decide ((indexWordV a0) ≥ (0 : Int))), ()), ()), ((), ()))
def anyWordV (a : List Int) : Bool := a.any notWordV
def k117 : Con := { f := 117, lend := true, its := [⟨false, false, [.ro (.int .i64)]⟩], lay := [none, some (118, 0)], rs := [⟨false, false, [.b]⟩], F := fun x => .ret ((((anyWordV x.1.1), ()), ()), ((), ())) }
theorem f117_eq (x : itemsD k117.its) : bo [k143] (fun _ => none) Tryz.f117 k117 [.tmp 4] x = f117_tree x.1.1 := by kernel_rfl
theorem f117_ok (hr : ∀ x : (List Int × Unit) × Unit, itemsWF k117.its x → (f117_tree x.1.1).eval = (k117.F x).eval) : k117.Ok Tryz.prog := con_fn [k143] ⟨k143_ok, trivial⟩ f117_eq fun x hw _ hy => (hr x hw).trans hy
theorem k117_ok : k117.Ok Tryz.prog := by
  refine f117_ok fun x _ => ?_
  obtain ⟨⟨a, _⟩, _⟩ := x
  show (f117_tree a).eval = some (((anyWordV a, ()), ()), ((), ()))
  unfold f117_tree anyWordV indexWordV
  rw [idxV_ge]
  rfl
def f89_tree (a0 : List Int) : Out (((Bool × Unit) × Unit) × (Unit × Unit)) :=
 .ret ((((!(anyWordV a0)), ()), ()), ((), ()))
def k89 : Con := { f := 89, lend := true, its := [⟨false, false, [.ro (.int .i64)]⟩], lay := [none], rs := [⟨false, false, [.b]⟩], F := fun x => .ret ((((wordsOkV x.1.1), ()), ()), ((), ())) }
theorem f89_eq (x : itemsD k89.its) : bo [k117] (fun _ => none) Tryz.f89 k89 [.tmp 2] x = f89_tree x.1.1 := by kernel_rfl
theorem f89_ok (hr : ∀ x : (List Int × Unit) × Unit, itemsWF k89.its x → (f89_tree x.1.1).eval = (k89.F x).eval) : k89.Ok Tryz.prog := con_fn [k117] ⟨k117_ok, trivial⟩ f89_eq fun x hw _ hy => (hr x hw).trans hy
theorem k89_ok : k89.Ok Tryz.prog := by
  refine f89_ok fun x _ => ?_
  obtain ⟨⟨a, _⟩, _⟩ := x
  show (f89_tree a).eval = some (((wordsOkV a, ()), ()), ((), ()))
  have : (!anyWordV a) = wordsOkV a := not_any a wordV
  rw [← this]; rfl
abbrev f96_S0 := (List ((Int × List Int × Unit)) × List ((Int × List Int × Unit)) × Int × Int × Unit) × (Unit)
def f96_L0 : f96_S0 → Out (Round f96_S0 ((List ((Int × List Int × Unit)) × Unit) × (Unit)) ((Bool × Unit) × (Unit)))
| ((p0, p1, p2, p3, _), _) =>
 .ite (decide (p3 < p2))
 (.ite (decide (0 ≤ p3))
 (.get (nth p1 (Int.toNat p3)) fun y1 =>
 .ite ((!(inV y1.1 (0 : Int) (5 : Int))) == false)
 (.ite ((decide (p3 > (0 : Int))) == true)
 (.ite (decide (0 ≤ (IntKind.i64.wrap (p3 - (1 : Int)))))
 (.get (nth p0 (Int.toNat (IntKind.i64.wrap (p3 - (1 : Int))))) fun y2 =>
 .ite ((decide (y2.1 ≥ y1.1)) == false)
 (.ite ((decide (((List.length y1.2.1 : Nat) : Int) > (8 : Int))) == false)
 (.ite (!(wordsOkV y1.2.1))
 (.ret (.ret ((false, ()), ())))
 (.ret (.again ((p0, p1, p2, (IntKind.i64.wrap (p3 + (1 : Int))), ()), ()))))
 (.ret (.ret ((false, ()), ()))))
 (.ret (.ret ((false, ()), ()))))
 .fail)
 (.ite ((decide (((List.length y1.2.1 : Nat) : Int) > (8 : Int))) == false)
 (.ite (!(wordsOkV y1.2.1))
 (.ret (.ret ((false, ()), ())))
 (.ret (.again ((p0, p1, p2, (IntKind.i64.wrap (p3 + (1 : Int))), ()), ()))))
 (.ret (.ret ((false, ()), ())))))
 (.ret (.ret ((false, ()), ()))))
 .fail)
 (.ret (.out ((p0, ()), ())))
def f96_tree (a0 : List (Int × List Int × Unit)) : Out (((Bool × Unit) × Unit) × (Unit × Unit)) :=
 .get (iter f96_L0 FUEL ((a0, a0, ((List.length a0 : Nat) : Int), (0 : Int), ()), ())) fun y1 => .alt y1 (fun y2 =>
 .ret ((((decide (((List.length y2.1.1 : Nat) : Int) ≤ (6 : Int))), ()), ()), ((), ()))) (fun y3 =>
 .ret (((y3.1.1, ()), ()), ((), ())))
def f96_A : Nat → Option LoopAnn := fun n => annOf [(0, { head := { t := [.ro tyF (some 0)] ++ dd 4 ++ [.ro tyF (some 0), .i .i64, .i .i64] ++ dd 39, v := [] }, out := { t := [.ro tyF (some 0)] ++ dd 46, v := [] }, ret := some { t := [.dead, .dead, .b] ++ dd 44, v := [] } })] n
def k96 : Con := { f := 96, lend := true, its := [⟨false, false, [.ro tyF]⟩], lay := [none], rs := [⟨false, false, [.b]⟩], F := fun x => .ret ((((filesOkV x.1.1), ()), ()), ((), ())) }
theorem f96_eq (x : itemsD k96.its) : bo [k88, k89] f96_A Tryz.f96 k96 [.tmp 2] x = f96_tree x.1.1 := by kernel_rfl
theorem f96_ok (hr : ∀ x : (List (Int × List Int × Unit) × Unit) × Unit, itemsWF k96.its x → (f96_tree x.1.1).eval = (k96.F x).eval) : k96.Ok Tryz.prog := con_fn [k88, k89] ⟨k88_ok, k89_ok, trivial⟩ f96_eq fun x hw _ hy => (hr x hw).trans hy
theorem k96_ok : k96.Ok Tryz.prog := by
  refine f96_ok fun x hw => ?_
  obtain ⟨⟨a, _⟩, _⟩ := x
  have ha : a.length ≤ BIG := hw.1.1.1
  show (f96_tree a).eval = some (((filesOkV a, ()), ()), ((), ()))
  unfold f96_tree filesOkV
  have key : ∀ i (hi : i < a.length), (f96_L0 ((a, (a, (((a.length : Nat) : Int), (((i : Nat) : Int), ())))), ())).eval = some (bif fileRowV a i then .again ((a, (a, (((a.length : Nat) : Int), (((i + 1 : Nat) : Int), ())))), ()) else .ret ((false, ()), ())) := fun i hi => by
    have w1 := wrap_succ (i := i) (by omega)
    have g : decide (((a[i].2.1.length : Nat) : Int) > (8 : Int)) = !decide (a[i].2.1.length ≤ 8) := gt_cast (m := 8)
    cases i with
    | zero =>
      rw [fileRowV_zero hi]
      have w3 : decide (((0 : Nat) : Int) > 0) = false := rfl
      unfold file1V
      simp only [f96_L0, Out.eval, lt_t hi, ge0, nth_get hi, Option.bind_some, cond_true, w3, g, w1]
      cases p1 : inV a[0].1 0 5 <;> cases p2 : decide (a[0].2.1.length ≤ 8) <;> cases p3 : wordsOkV a[0].2.1 <;> rfl
    | succ i =>
      rw [fileRowV_succ hi]
      have w2 := wrap_pred i (by omega)
      have w3 : decide (((i + 1 : Nat) : Int) > 0) = true := decide_eq_true (by omega)
      unfold file1V
      simp only [f96_L0, Out.eval, lt_t hi, ge0, nth_get hi, nth_get (show i < a.length by omega), w1, w2, w3, g, not_ge, Option.bind_some, cond_true]
      cases p1 : inV a[i + 1].1 0 5 <;> cases p2 : decide (a[i].1 < a[i + 1].1) <;> cases p3 : decide (a[i + 1].2.1.length ≤ 8) <;> cases p4 : wordsOkV a[i + 1].2.1 <;> rfl
  have := iter_scan (f := f96_L0) (fun i => ((a, (a, (((a.length : Nat) : Int), (((i : Nat) : Int), ())))), ())) (fileRowV a) a.length (y := ((a, ()), ())) (z := ((false, ()), ())) (lt_fuel ha)
    (fun i hi hp => by rw [key i hi, hp]; rfl) (fun i hi hp => by rw [key i hi, hp]; rfl) (by simp [f96_L0, Out.eval])
  refine (eval_get_some this).trans ?_
  have e2 : decide (((a.length : Nat) : Int) ≤ (6 : Int)) = decide (a.length ≤ 6) := le_cast (m := 6)
  cases (List.range a.length).all (fileRowV a)
  · rw [Bool.and_false]; rfl
  · rw [Bool.and_true, ← e2]; rfl
def f112_tree (a0 : Int) : Out (((Int × Unit) × Unit) × (Unit × Unit)) :=
 .ite (decide (a0 < (0 : Int)))
 (.ret ((((IntKind.i64.wrap ((IntKind.i64.wrap ((-2 : Int) * a0)) - (1 : Int))), ()), ()), ((), ())))
 (.ret ((((IntKind.i64.wrap ((2 : Int) * a0)), ()), ()), ((), ())))
def k112 : Con := { f := 112, lend := true, its := [⟨false, false, [.i .i64]⟩], lay := [none], rs := [⟨false, false, [.i .i64]⟩], F := fun x => .ret ((((zigV x.1.1), ()), ()), ((), ())) }
theorem f112_eq (x : itemsD k112.its) : bo [] (fun _ => none) Tryz.f112 k112 [.tmp 2] x = f112_tree x.1.1 := by kernel_rfl
theorem f112_ok (hr : ∀ x : (Int × Unit) × Unit, itemsWF k112.its x → (f112_tree x.1.1).eval = (k112.F x).eval) : k112.Ok Tryz.prog := con_fn [] trivial f112_eq fun x hw _ hy => (hr x hw).trans hy
theorem k112_ok : k112.Ok Tryz.prog := by
  refine f112_ok fun x _ => ?_
  obtain ⟨⟨n, _⟩, _⟩ := x
  show (f112_tree n).eval = some (((zigV n, ()), ()), ((), ()))
  unfold f112_tree zigV
  by_cases h : n < 0
  · rw [eval_ite_t (decide_eq_true h), if_pos h]; rfl
  · rw [eval_ite_f (decide_eq_false h), if_neg h]; rfl
abbrev f83_S0 := (List (Int) × List UInt8 × Int × Unit) × (Unit)
def f83_L0 : f83_S0 → Out (Round f83_S0 ((List UInt8 × Unit) × (Unit)) Empty)
| ((p0, p1, p2, _), _) =>
 .ite (decide (p2 < ((List.length p0 : Nat) : Int)))
 (.ite (decide (0 ≤ p2))
 (.get (nth p0 (Int.toNat p2)) fun y1 =>
 .ite (decide (List.length p1 + List.length (varV (zigV y1)) ≤ LIM))
 (.ret (.again ((p0, (p1 ++ (varV (zigV y1))), (IntKind.i64.wrap (p2 + (1 : Int))), ()), ())))
 .fail)
 .fail)
 (.ret (.out ((p1, ()), ())))
def f83_tree (a0 : List Int) : Out (((List UInt8 × Unit) × Unit) × (Unit × Unit)) :=
 .get (iter1 f83_L0 FUEL ((a0, (varV ((List.length a0 : Nat) : Int)), (0 : Int), ()), ())) fun y1 =>
 .ret (((y1.1.1, ()), ()), ((), ()))
def f83_A : Nat → Option LoopAnn := fun n => annOf [(0, { head := { t := [.ro (.int .i64) (some 0), .dead, .dead, .s, .i .i64] ++ dd 18, v := [] }, out := { t := [.dead, .dead, .dead, .s] ++ dd 19, v := [] }, ret := none })] n
def wordsTV (l : List Int) : Option Str := lim (wordsS l) (wordsS l)
def k83 : Con := { f := 83, lend := true, its := [⟨false, false, [.ro (.int .i64)]⟩], lay := [none], rs := [⟨false, false, [.s]⟩], F := fun x => .get (wordsTV x.1.1) fun y => .ret (((y, ()), ()), ((), ())) }
theorem f83_eq (x : itemsD k83.its) : bo [k73, k112] f83_A Tryz.f83 k83 [.tmp 2] x = f83_tree x.1.1 := by kernel_rfl
theorem f83_okp (hr : ∀ x : (List Int × Unit) × Unit, itemsWF k83.its x → ∀ y, (k83.F x).eval = some y → (f83_tree x.1.1).eval = some y) : k83.Ok Tryz.prog := con_fn [k73, k112] ⟨k73_ok, k112_ok, trivial⟩ f83_eq hr
theorem k83_ok : k83.Ok Tryz.prog := by
  refine f83_okp fun x hw y hy => ?_
  obtain ⟨⟨a, _⟩, _⟩ := x
  have ha : a.length ≤ BIG := hw.1.1.1
  change (Out.get (wordsTV a) fun y => Out.ret (((y, ()), ()), ((), ()))).eval = some y at hy
  show (f83_tree a).eval = some y
  unfold f83_tree
  unfold wordsTV at hy
  by_cases hl : (wordsS a).length ≤ LIM
  · rw [lim_some hl] at hy
    refine Eq.trans ?_ hy
    have := flat_loop (f := f83_L0) (fun n => varV (zigV n)) a (fun s i => ((a, (s, (((i : Nat) : Int), ()))), ())) (fun s => ((s, ()), ())) LIM
      (fun i hi s hs => by
        have w1 := wrap_succ (i := i) (by omega)
        simp only [f83_L0, Out.eval, lt_t hi, ge0, nth_get hi, Option.bind_some, cond_true, decide_eq_true hs, w1])
      (fun s => by simp [f83_L0, Out.eval]) ha (varV ((a.length : Nat) : Int)) (by unfold wordsS at hl; rw [List.length_append] at hl; exact hl)
    exact (eval_get_some this).trans rfl
  · rw [lim_not hl] at hy; exact nomatch hy
def f98_tree (a0 : Int) : Out (((List UInt8 × Unit) × Unit) × (Unit × Unit)) :=
 .ite (decide (a0 < (0 : Int)))
 (.ret ((((varV (IntKind.i64.wrap ((IntKind.i64.wrap ((-2 : Int) * a0)) - (1 : Int)))), ()), ()), ((), ())))
 (.ret ((((varV (IntKind.i64.wrap ((2 : Int) * a0))), ()), ()), ((), ())))
def wordVarV (n : Int) : Str := varV (zigV n)
def k98 : Con := { f := 98, lend := true, its := [⟨false, false, [.i .i64]⟩], lay := [none], rs := [⟨false, false, [.s]⟩], F := fun x => .ret ((((wordVarV x.1.1), ()), ()), ((), ())) }
theorem f98_eq (x : itemsD k98.its) : bo [k59] (fun _ => none) Tryz.f98 k98 [.tmp 2] x = f98_tree x.1.1 := by kernel_rfl
theorem f98_ok (hr : ∀ x : (Int × Unit) × Unit, itemsWF k98.its x → (f98_tree x.1.1).eval = (k98.F x).eval) : k98.Ok Tryz.prog := con_fn [k59] ⟨k59_ok, trivial⟩ f98_eq fun x hw _ hy => (hr x hw).trans hy
theorem k98_ok : k98.Ok Tryz.prog := by
  refine f98_ok fun x _ => ?_
  obtain ⟨⟨n, _⟩, _⟩ := x
  show (f98_tree n).eval = some (((wordVarV n, ()), ()), ((), ()))
  unfold f98_tree wordVarV zigV
  by_cases h : n < 0
  · rw [eval_ite_t (decide_eq_true h), if_pos h]; rfl
  · rw [eval_ite_f (decide_eq_false h), if_neg h]; rfl
abbrev f60_S0 := (List UInt8 × List (Int) × Int × Int × Unit) × (Unit)
def f60_L0 : f60_S0 → Out (Round f60_S0 ((List UInt8 × Unit) × (Unit)) Empty)
| ((p0, p1, p2, p3, _), _) =>
 .ite (decide (p3 < p2))
 (.ite (decide (0 ≤ p3))
 (.get (nth p1 (Int.toNat p3)) fun y1 =>
 .ite (decide (List.length p0 + List.length (wordVarV y1) ≤ LIM))
 (.ret (.again (((p0 ++ (wordVarV y1)), p1, p2, (IntKind.i64.wrap (p3 + (1 : Int))), ()), ())))
 .fail)
 .fail)
 (.ret (.out ((p0, ()), ())))
def f60_tree (a0 : List Int) : Out (((List UInt8 × Unit) × Unit) × (Unit × Unit)) :=
 .get (iter1 f60_L0 FUEL (((varV ((List.length a0 : Nat) : Int)), a0, ((List.length a0 : Nat) : Int), (0 : Int), ()), ())) fun y1 =>
 .ret (((y1.1.1, ()), ()), ((), ()))
def f60_A : Nat → Option LoopAnn := fun n => annOf [(0, { head := { t := [.dead, .dead, .dead, .s] ++ dd 5 ++ [.ro (.int .i64) (some 0), .i .i64, .i .i64] ++ dd 9, v := [] }, out := { t := [.dead, .dead, .dead, .s] ++ dd 17, v := [] }, ret := none })] n
def k60 : Con := { f := 60, lend := true, its := [⟨false, false, [.ro (.int .i64)]⟩], lay := [none], rs := [⟨false, false, [.s]⟩], F := fun x => .get (wordsTV x.1.1) fun y => .ret (((y, ()), ()), ((), ())) }
theorem f60_eq (x : itemsD k60.its) : bo [k59, k98] f60_A Tryz.f60 k60 [.tmp 2] x = f60_tree x.1.1 := by kernel_rfl
theorem f60_okp (hr : ∀ x : (List Int × Unit) × Unit, itemsWF k60.its x → ∀ y, (k60.F x).eval = some y → (f60_tree x.1.1).eval = some y) : k60.Ok Tryz.prog := con_fn [k59, k98] ⟨k59_ok, k98_ok, trivial⟩ f60_eq hr
theorem k60_ok : k60.Ok Tryz.prog := by
  refine f60_okp fun x hw y hy => ?_
  obtain ⟨⟨a, _⟩, _⟩ := x
  have ha : a.length ≤ BIG := hw.1.1.1
  change (Out.get (wordsTV a) fun y => Out.ret (((y, ()), ()), ((), ()))).eval = some y at hy
  show (f60_tree a).eval = some y
  unfold f60_tree
  unfold wordsTV at hy
  by_cases hl : (wordsS a).length ≤ LIM
  · rw [lim_some hl] at hy
    refine Eq.trans ?_ hy
    have := flat_loop (f := f60_L0) wordVarV a (fun s i => ((s, (a, (((a.length : Nat) : Int), (((i : Nat) : Int), ())))), ())) (fun s => ((s, ()), ())) LIM
      (fun i hi s hs => by
        have w1 := wrap_succ (i := i) (by omega)
        simp only [f60_L0, Out.eval, lt_t hi, ge0, nth_get hi, Option.bind_some, cond_true, decide_eq_true hs, w1])
      (fun s => by simp [f60_L0, Out.eval]) ha (varV ((a.length : Nat) : Int)) (by unfold wordsS at hl; rw [List.length_append] at hl; exact hl)
    exact (eval_get_some this).trans rfl
  · rw [lim_not hl] at hy; exact nomatch hy
end Go.Proofs.YtcpjdjgipmjhdaaGreat.Dm
