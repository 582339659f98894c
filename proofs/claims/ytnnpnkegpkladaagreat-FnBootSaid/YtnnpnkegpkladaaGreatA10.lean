/- Functions of the program, and what they compute. -/
import Derived.Test.YtnnpnkegpkladaaGreatA9
namespace Go.Proofs.YtnnpnkegpkladaaGreat.Dm
open Go Go.ChangeShapes Go.WideShapes Go.ChangeAt Go.RowKit
def f162_tree (a0 : Int) : Out (((Bool × Unit) × Unit) × (Unit × Unit)) :=
 .ret ((((inV a0 (-1000000 : Int) (1000000 : Int)), ()), ()), ((), ()))
def k162 : Con := { f := 162, lend := true, its := [⟨false, false, [.i .i64]⟩], lay := [none], rs := [⟨false, false, [.b]⟩], F := fun x => .ret ((((wordV x.1.1), ()), ()), ((), ())) }
theorem f162_eq (x : itemsD k162.its) : bo [k65] (fun _ => none) Tryz.f162 k162 [.tmp 2] x = f162_tree x.1.1 := by kernel_rfl
theorem f162_ok (hr : ∀ x : (Int × Unit) × Unit, itemsWF k162.its x → (f162_tree x.1.1).eval = (k162.F x).eval) : k162.Ok Tryz.prog := con_fn [k65] ⟨k65_ok, trivial⟩ f162_eq fun x hw _ hy => (hr x hw).trans hy
theorem k162_ok : k162.Ok Tryz.prog := f162_ok fun _ _ => rfl
abbrev f69_S0 := (List (Int) × Int × Unit) × (Unit)
def f69_L0 : f69_S0 → Out (Round f69_S0 ((Unit) × (Unit)) ((Bool × Unit) × (Unit)))
| ((p0, p1, _), _) =>
 .ite (decide (p1 < ((List.length p0 : Nat) : Int)))
 (.ite (decide (0 ≤ p1))
 (.get (nth p0 (Int.toNat p1)) fun y1 =>
 .ite (!(wordV y1))
 (.ret (.ret ((false, ()), ())))
 (.ret (.again ((p0, (IntKind.i64.wrap (p1 + (1 : Int))), ()), ()))))
 .fail)
 (.ret (.out ((), ())))
def f69_tree (a0 : List Int) : Out (((Bool × Unit) × Unit) × (Unit × Unit)) :=
 .get (iter f69_L0 FUEL ((a0, (0 : Int), ()), ())) fun y1 => .alt y1 (fun y2 =>
 .ret (((true, ()), ()), ((), ()))) (fun y3 =>
 .ret (((y3.1.1, ()), ()), ((), ())))
def f69_A : Nat → Option LoopAnn := fun n => annOf [(0, ⟨⟨[.ro (.int .i64) (some 0), .dead, .dead, .i .i64] ++ dd 12, []⟩, ⟨dd 16, []⟩, some ⟨[.dead, .dead, .b] ++ dd 13, []⟩, false⟩)] n
def k69 : Con := { f := 69, lend := true, its := [⟨false, false, [.ro (.int .i64)]⟩], lay := [none], rs := [⟨false, false, [.b]⟩], F := fun x => .ret ((((wordsOkV x.1.1), ()), ()), ((), ())) }
theorem f69_eq (x : itemsD k69.its) : bo [k162] f69_A Tryz.f69 k69 [.tmp 2] x = f69_tree x.1.1 := by kernel_rfl
theorem f69_ok (hr : ∀ x : (List Int × Unit) × Unit, itemsWF k69.its x → (f69_tree x.1.1).eval = (k69.F x).eval) : k69.Ok Tryz.prog := con_fn [k162] ⟨k162_ok, trivial⟩ f69_eq fun x hw _ hy => (hr x hw).trans hy
theorem k69_ok : k69.Ok Tryz.prog := by
  refine f69_ok fun x hw => ?_
  obtain ⟨⟨a, _⟩, _⟩ := x
  have ha : a.length ≤ BIG := hw.1.1.1
  show (f69_tree a).eval = some (((wordsOkV a, ()), ()), ((), ()))
  unfold f69_tree wordsOkV
  have := all_loop (f := f69_L0) a wordV (fun i => ((a, (((i : Nat) : Int), ())), ())) (y := ((), ())) (z := ((false, ()), ()))
    (fun i hi hp => by
      have g1 := wrap_succ (i := i) (by omega)
      simp [f69_L0, Out.eval, hi, g1, hp])
    (fun i hi hp => by simp [f69_L0, Out.eval, hi, hp])
    (by simp [f69_L0, Out.eval]) ha
  refine (eval_get_some this).trans ?_
  cases a.all wordV <;> rfl
def f145_tree (a0 : Int) : Out (((Bool × Unit) × Unit) × (Unit × Unit)) :=
 .ret ((((inV a0 (-1000000 : Int) (1000000 : Int)), ()), ()), ((), ()))
def k145 : Con := { f := 145, lend := true, its := [⟨false, false, [.i .i64]⟩], lay := [none], rs := [⟨false, false, [.b]⟩], F := fun x => .ret ((((wordV x.1.1), ()), ()), ((), ())) }
theorem f145_eq (x : itemsD k145.its) : bo [k25] (fun _ => none) Tryz.f145 k145 [.tmp 2] x = f145_tree x.1.1 := by kernel_rfl
theorem f145_ok (hr : ∀ x : (Int × Unit) × Unit, itemsWF k145.its x → (f145_tree x.1.1).eval = (k145.F x).eval) : k145.Ok Tryz.prog := con_fn [k25] ⟨k25_ok, trivial⟩ f145_eq fun x hw _ hy => (hr x hw).trans hy
theorem k145_ok : k145.Ok Tryz.prog := f145_ok fun _ _ => rfl
def f264_tree (a0 : Int) : Out (((Bool × Unit) × Unit) × (Unit × Unit)) :=
 .ret ((((!(wordV a0)), ()), ()), ((), ()))
def notWordV (n : Int) : Bool := !wordV n
def k264 : Con := { f := 264, lend := true, its := [⟨false, false, [.i .i64]⟩], lay := [none], rs := [⟨false, false, [.b]⟩], F := fun x => .ret ((((notWordV x.1.1), ()), ()), ((), ())) }
theorem f264_eq (x : itemsD k264.its) : bo [k145] (fun _ => none) Tryz.f264 k264 [.tmp 2] x = f264_tree x.1.1 := by kernel_rfl
theorem f264_ok (hr : ∀ x : (Int × Unit) × Unit, itemsWF k264.its x → (f264_tree x.1.1).eval = (k264.F x).eval) : k264.Ok Tryz.prog := con_fn [k145] ⟨k145_ok, trivial⟩ f264_eq fun x hw _ hy => (hr x hw).trans hy
theorem k264_ok : k264.Ok Tryz.prog := f264_ok fun _ _ => rfl
abbrev f185_S0 := (List (Int) × Int × Int × Unit) × (Unit)
def f185_L0 : f185_S0 → Out (Round f185_S0 ((Unit) × (Unit)) ((Int × Unit) × (Unit)))
| ((p0, p1, p2, _), _) =>
 .ite (decide (p2 < p1))
 (.ite (decide (0 ≤ p2))
 (.get (nth p0 (Int.toNat p2)) fun y1 =>
 .ite (notWordV y1)
 (.ret (.ret ((p2, ()), ())))
 (.ret (.again ((p0, p1, (IntKind.i64.wrap (p2 + (1 : Int))), ()), ()))))
 .fail)
 (.ret (.out ((), ())))
def f185_tree (a0 : List Int) : Out (((Int × Unit) × Unit) × (Unit × Unit)) :=
 .get (iter f185_L0 FUEL ((a0, ((List.length a0 : Nat) : Int), (0 : Int), ()), ())) fun y1 => .alt y1 (fun y2 =>
 .ret ((((-1 : Int), ()), ()), ((), ()))) (fun y3 =>
 .ret (((y3.1.1, ()), ()), ((), ())))
def f185_A : Nat → Option LoopAnn := fun n => annOf [(0, ⟨⟨[.ro (.int .i64) (some 0), .fn 264 []] ++ dd 5 ++ [.i .i64, .i .i64] ++ dd 10, []⟩, ⟨dd 19, []⟩, some ⟨dd 4 ++ [.i .i64] ++ dd 14, []⟩, false⟩)] n
def indexWordV (a : List Int) : Int := idxV (a.findIdx? notWordV)
def k185 : Con := { f := 185, lend := true, its := [⟨false, false, [.ro (.int .i64)]⟩], lay := [none, some (264, 0)], rs := [⟨false, false, [.i .i64]⟩], F := fun x => .ret ((((indexWordV x.1.1), ()), ()), ((), ())) }
theorem f185_eq (x : itemsD k185.its) : bo [k264] f185_A Tryz.f185 k185 [.tmp 4] x = f185_tree x.1.1 := by kernel_rfl
theorem f185_ok (hr : ∀ x : (List Int × Unit) × Unit, itemsWF k185.its x → (f185_tree x.1.1).eval = (k185.F x).eval) : k185.Ok Tryz.prog := con_fn [k264] ⟨k264_ok, trivial⟩ f185_eq fun x hw _ hy => (hr x hw).trans hy
theorem k185_ok : k185.Ok Tryz.prog := by
  refine f185_ok fun x hw => ?_
  obtain ⟨⟨a, _⟩, _⟩ := x
  have ha : a.length ≤ BIG := hw.1.1.1
  show (f185_tree a).eval = some (((indexWordV a, ()), ()), ((), ()))
  unfold f185_tree indexWordV
  have := idx_loop (f := f185_L0) a notWordV (fun i => ((a, (((a.length : Nat) : Int), (((i : Nat) : Int), ()))), ())) (y := ((), ())) (z := fun i => ((((i : Nat) : Int), ()), ()))
    (fun i hi hp => by
      have g1 := wrap_succ (i := i) (by omega)
      simp [f185_L0, Out.eval, hi, g1, hp])
    (fun i hi hp => by simp [f185_L0, Out.eval, hi, hp])
    (by simp [f185_L0, Out.eval]) ha
  refine (eval_get_some this).trans ?_
  cases a.findIdx? notWordV <;> rfl
def f191_tree (a0 : List Int) : Out (((Bool × Unit) × Unit) × (Unit × Unit)) :=
 .ret ((((decide ((indexWordV a0) ≥ (0 : Int))), ()), ()), ((), ()))
def anyWordV (a : List Int) : Bool := a.any notWordV
def k191 : Con := { f := 191, lend := true, its := [⟨false, false, [.ro (.int .i64)]⟩], lay := [none, some (264, 0)], rs := [⟨false, false, [.b]⟩], F := fun x => .ret ((((anyWordV x.1.1), ()), ()), ((), ())) }
theorem f191_eq (x : itemsD k191.its) : bo [k185] (fun _ => none) Tryz.f191 k191 [.tmp 4] x = f191_tree x.1.1 := by kernel_rfl
theorem f191_ok (hr : ∀ x : (List Int × Unit) × Unit, itemsWF k191.its x → (f191_tree x.1.1).eval = (k191.F x).eval) : k191.Ok Tryz.prog := con_fn [k185] ⟨k185_ok, trivial⟩ f191_eq fun x hw _ hy => (hr x hw).trans hy
theorem k191_ok : k191.Ok Tryz.prog := by
  refine f191_ok fun x _ => ?_
  obtain ⟨⟨a, _⟩, _⟩ := x
  show (f191_tree a).eval = some (((anyWordV a, ()), ()), ((), ()))
  unfold f191_tree anyWordV indexWordV
  rw [idxV_ge]
  rfl
def f223_tree (a0 : List Int) : Out (((Bool × Unit) × Unit) × (Unit × Unit)) :=
 .ret ((((!(anyWordV a0)), ()), ()), ((), ()))
def k223 : Con := { f := 223, lend := true, its := [⟨false, false, [.ro (.int .i64)]⟩], lay := [none], rs := [⟨false, false, [.b]⟩], F := fun x => .ret ((((wordsOkV x.1.1), ()), ()), ((), ())) }
theorem f223_eq (x : itemsD k223.its) : bo [k191] (fun _ => none) Tryz.f223 k223 [.tmp 2] x = f223_tree x.1.1 := by kernel_rfl
theorem f223_ok (hr : ∀ x : (List Int × Unit) × Unit, itemsWF k223.its x → (f223_tree x.1.1).eval = (k223.F x).eval) : k223.Ok Tryz.prog := con_fn [k191] ⟨k191_ok, trivial⟩ f223_eq fun x hw _ hy => (hr x hw).trans hy
theorem k223_ok : k223.Ok Tryz.prog := by
  refine f223_ok fun x _ => ?_
  obtain ⟨⟨a, _⟩, _⟩ := x
  show (f223_tree a).eval = some (((wordsOkV a, ()), ()), ((), ()))
  have : (!anyWordV a) = wordsOkV a := not_any a wordV
  rw [← this]; rfl
abbrev f229_S0 := (List ((Int × List Int × Unit)) × List ((Int × List Int × Unit)) × Int × Int × Unit) × (Unit)
def f229_L0 : f229_S0 → Out (Round f229_S0 ((List ((Int × List Int × Unit)) × Unit) × (Unit)) ((Bool × Unit) × (Unit)))
| ((p0, p1, p2, p3, _), _) =>
 .ite (decide (p3 < p2))
 (.ite (decide (0 ≤ p3))
 (.get (nth p1 (Int.toNat p3)) fun y1 =>
 .ite ((!(inV y1.1 (0 : Int) (5 : Int))) == false)
 (.ite ((decide (p3 > (0 : Int))) == true)
 (.ite (decide (0 ≤ (IntKind.i64.wrap (p3 - (1 : Int)))))
 (.get (nth p0 (Int.toNat (IntKind.i64.wrap (p3 - (1 : Int))))) fun y2 =>
 .ite ((decide (y2.1 ≥ y1.1)) == false)
 (.ite ((decide (((List.length y1.2.1 : Nat) : Int) > (8 : Int))) == false)
 (.ite (!(wordsOkV y1.2.1))
 (.ret (.ret ((false, ()), ())))
 (.ret (.again ((p0, p1, p2, (IntKind.i64.wrap (p3 + (1 : Int))), ()), ()))))
 (.ret (.ret ((false, ()), ()))))
 (.ret (.ret ((false, ()), ()))))
 .fail)
 (.ite ((decide (((List.length y1.2.1 : Nat) : Int) > (8 : Int))) == false)
 (.ite (!(wordsOkV y1.2.1))
 (.ret (.ret ((false, ()), ())))
 (.ret (.again ((p0, p1, p2, (IntKind.i64.wrap (p3 + (1 : Int))), ()), ()))))
 (.ret (.ret ((false, ()), ())))))
 (.ret (.ret ((false, ()), ()))))
 .fail)
 (.ret (.out ((p0, ()), ())))
def f229_tree (a0 : List (Int × List Int × Unit)) : Out (((Bool × Unit) × Unit) × (Unit × Unit)) :=
 .get (iter f229_L0 FUEL ((a0, a0, ((List.length a0 : Nat) : Int), (0 : Int), ()), ())) fun y1 => .alt y1 (fun y2 =>
 .ret ((((decide (((List.length y2.1.1 : Nat) : Int) ≤ (6 : Int))), ()), ()), ((), ()))) (fun y3 =>
 .ret (((y3.1.1, ()), ()), ((), ())))
def f229_A : Nat → Option LoopAnn := fun n => annOf [(0, ⟨⟨[.ro tyF (some 0)] ++ dd 4 ++ [.ro tyF (some 0), .i .i64, .i .i64] ++ dd 39, []⟩, ⟨[.ro tyF (some 0)] ++ dd 46, []⟩, some ⟨[.dead, .dead, .b] ++ dd 44, []⟩, false⟩)] n
def k229 : Con := { f := 229, lend := true, its := [⟨false, false, [.ro tyF]⟩], lay := [none], rs := [⟨false, false, [.b]⟩], F := fun x => .ret ((((filesOkV x.1.1), ()), ()), ((), ())) }
theorem f229_eq (x : itemsD k229.its) : bo [k25, k223] f229_A Tryz.f229 k229 [.tmp 2] x = f229_tree x.1.1 := by kernel_rfl
theorem f229_ok (hr : ∀ x : (List (Int × List Int × Unit) × Unit) × Unit, itemsWF k229.its x → (f229_tree x.1.1).eval = (k229.F x).eval) : k229.Ok Tryz.prog := con_fn [k25, k223] ⟨k25_ok, k223_ok, trivial⟩ f229_eq fun x hw _ hy => (hr x hw).trans hy
theorem k229_ok : k229.Ok Tryz.prog := by
  refine f229_ok fun x hw => ?_
  obtain ⟨⟨a, _⟩, _⟩ := x
  have ha : a.length ≤ BIG := hw.1.1.1
  show (f229_tree a).eval = some (((filesOkV a, ()), ()), ((), ()))
  unfold f229_tree filesOkV
  have key : ∀ i (hi : i < a.length), (f229_L0 ((a, (a, (((a.length : Nat) : Int), (((i : Nat) : Int), ())))), ())).eval = some (bif fileRowV a i then .again ((a, (a, (((a.length : Nat) : Int), (((i + 1 : Nat) : Int), ())))), ()) else .ret ((false, ()), ())) := fun i hi => by
    have w1 := wrap_succ (i := i) (by omega)
    have g : decide (((a[i].2.1.length : Nat) : Int) > (8 : Int)) = !decide (a[i].2.1.length ≤ 8) := gt_cast (m := 8)
    cases i with
    | zero =>
      rw [fileRowV_zero hi]
      have w3 : decide (((0 : Nat) : Int) > 0) = false := rfl
      unfold file1V
      simp only [f229_L0, Out.eval, lt_t hi, ge0, nth_get hi, Option.bind_some, cond_true, w3, g, w1]
      cases p1 : inV a[0].1 0 5 <;> cases p2 : decide (a[0].2.1.length ≤ 8) <;> cases p3 : wordsOkV a[0].2.1 <;> rfl
    | succ i =>
      rw [fileRowV_succ hi]
      have w2 := wrap_pred i (by omega)
      have w3 : decide (((i + 1 : Nat) : Int) > 0) = true := decide_eq_true (by omega)
      unfold file1V
      simp only [f229_L0, Out.eval, lt_t hi, ge0, nth_get hi, nth_get (show i < a.length by omega), w1, w2, w3, g, not_ge, Option.bind_some, cond_true]
      cases p1 : inV a[i + 1].1 0 5 <;> cases p2 : decide (a[i].1 < a[i + 1].1) <;> cases p3 : decide (a[i + 1].2.1.length ≤ 8) <;> cases p4 : wordsOkV a[i + 1].2.1 <;> rfl
  have := iter_scan (f := f229_L0) (fun i => ((a, (a, (((a.length : Nat) : Int), (((i : Nat) : Int), ())))), ())) (fileRowV a) a.length (y := ((a, ()), ())) (z := ((false, ()), ())) (lt_fuel ha)
    (fun i hi hp => by rw [key i hi, hp]; rfl) (fun i hi hp => by rw [key i hi, hp]; rfl) (by simp [f229_L0, Out.eval])
  refine (eval_get_some this).trans ?_
  have e2 : decide (((a.length : Nat) : Int) ≤ (6 : Int)) = decide (a.length ≤ 6) := le_cast (m := 6)
  cases (List.range a.length).all (fileRowV a)
  · rw [Bool.and_false]; rfl
  · rw [Bool.and_true, ← e2]; rfl
end Go.Proofs.YtnnpnkegpkladaaGreat.Dm
