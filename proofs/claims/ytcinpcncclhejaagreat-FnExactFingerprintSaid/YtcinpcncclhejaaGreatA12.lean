/- Functions of the program, and what they compute. -/
import Derived.Test.YtcinpcncclhejaaGreatA11
namespace Go.Proofs.YtcinpcncclhejaaGreat.Dm
open Go Go.ChangeShapes Go.WideShapes Go.ChangeAt Go.RowKit

abbrev InsD := Int × (Int × (Int × (Int × Unit)))
/-! ## Right programs -/
def regV (n : Int) : Bool := decide (0 ≤ n) && decide (n < 4)
def placeV (n : Int) : Bool := inV n 0 40
def f194_tree (a0 : Int) : Out (((Bool × Unit) × Unit) × (Unit × Unit)) :=
 .ite ((decide (a0 ≥ (0 : Int))) == true)
 (.ret ((((decide (a0 < (4 : Int))), ()), ()), ((), ())))
 (.ret (((false, ()), ()), ((), ())))
def k194 : Con := { f := 194, lend := true, its := [⟨false, false, [.i .i64]⟩], lay := [none], rs := [⟨false, false, [.b]⟩], F := fun x => .ret ((((regV x.1.1), ()), ()), ((), ())) }
theorem f194_eq (x : itemsD k194.its) : bodyOut (cxOf []) (fun _ => none) (codeOf Tryz.f194) k194.its k194.lay Tryz.f194.ntmps k194.rs [.tmp 2] x = f194_tree x.1.1 := by kernel_rfl
theorem f194_ok (hr : ∀ x : (Int × Unit) × Unit, itemsWF k194.its x → (f194_tree x.1.1).eval = (k194.F x).eval) : k194.Ok Tryz.prog :=
  con_fn [] trivial (by kernel_rfl) (codeOf_eq (by kernel_rfl)) (by kernel_rfl) (by kernel_rfl) (by kernel_rfl) f194_eq fun x hw _ hy => (hr x hw).trans hy
theorem k194_ok : k194.Ok Tryz.prog := by
  refine f194_ok fun x _ => ?_
  obtain ⟨⟨n, _⟩, _⟩ := x
  show (f194_tree n).eval = some (((regV n, ()), ()), ((), ()))
  unfold f194_tree regV
  by_cases h1 : 0 ≤ n <;> simp [Out.eval, h1]
def f181_tree (a0 : Int) : Out (((Bool × Unit) × Unit) × (Unit × Unit)) :=
 .ret ((((inV a0 (0 : Int) (3 : Int)), ()), ()), ((), ()))
def k181 : Con := { f := 181, lend := true, its := [⟨false, false, [.i .i64]⟩], lay := [none], rs := [⟨false, false, [.b]⟩], F := fun x => .ret ((((regV x.1.1), ()), ()), ((), ())) }
theorem f181_eq (x : itemsD k181.its) : bodyOut (cxOf [k96]) (fun _ => none) (codeOf Tryz.f181) k181.its k181.lay Tryz.f181.ntmps k181.rs [.tmp 2] x = f181_tree x.1.1 := by kernel_rfl
theorem f181_ok (hr : ∀ x : (Int × Unit) × Unit, itemsWF k181.its x → (f181_tree x.1.1).eval = (k181.F x).eval) : k181.Ok Tryz.prog :=
  con_fn [k96] ⟨k96_ok, trivial⟩ (by kernel_rfl) (codeOf_eq (by kernel_rfl)) (by kernel_rfl) (by kernel_rfl) (by kernel_rfl) f181_eq fun x hw _ hy => (hr x hw).trans hy
theorem k181_ok : k181.Ok Tryz.prog := by
  refine f181_ok fun x _ => ?_
  obtain ⟨⟨n, _⟩, _⟩ := x
  show (f181_tree n).eval = some (((regV n, ()), ()), ((), ()))
  have h4 : decide (n ≤ 3) = decide (n < 4) := by rw [Bool.eq_iff_iff]; simp; omega
  unfold f181_tree regV inV
  rw [h4]; rfl
def f182_tree (a0 : Int) : Out (((Bool × Unit) × Unit) × (Unit × Unit)) :=
 .ret ((((inV a0 (0 : Int) (40 : Int)), ()), ()), ((), ()))
def k182 : Con := { f := 182, lend := true, its := [⟨false, false, [.i .i64]⟩], lay := [none], rs := [⟨false, false, [.b]⟩], F := fun x => .ret ((((placeV x.1.1), ()), ()), ((), ())) }
theorem f182_eq (x : itemsD k182.its) : bodyOut (cxOf [k96]) (fun _ => none) (codeOf Tryz.f182) k182.its k182.lay Tryz.f182.ntmps k182.rs [.tmp 2] x = f182_tree x.1.1 := by kernel_rfl
theorem f182_ok (hr : ∀ x : (Int × Unit) × Unit, itemsWF k182.its x → (f182_tree x.1.1).eval = (k182.F x).eval) : k182.Ok Tryz.prog :=
  con_fn [k96] ⟨k96_ok, trivial⟩ (by kernel_rfl) (codeOf_eq (by kernel_rfl)) (by kernel_rfl) (by kernel_rfl) (by kernel_rfl) f182_eq fun x hw _ hy => (hr x hw).trans hy
theorem k182_ok : k182.Ok Tryz.prog := f182_ok fun _ _ => rfl
/-- Is this an instruction? -/
def insOkV (o a b c : Int) : Bool :=
  bif o == 1 then regV a && (inV b (-1000000) 1000000 && (c == 0)) else
  bif o == 2 then regV a && (regV b && regV c) else
  bif o == 3 then regV a && (regV b && regV c) else
  bif o == 4 then regV a && (regV b && (c == 0)) else
  bif o == 5 then regV a && (regV b && (c == 0)) else
  bif o == 6 then inV a 0 40 && ((b == 0) && (c == 0)) else
  bif o == 7 then regV a && (inV b 0 40 && (c == 0)) else
  bif o == 8 then inV a 1 20 && ((b == 0) && (c == 0)) else false
theorem zero_eq (n : Int) : ((0 : Int) == n) = (n == 0) := by
  rw [Bool.eq_iff_iff]; simp only [beq_iff_eq]; omega
def f173_tree (a0 : Int) (a1 : Int) (a2 : Int) (a3 : Int) : Out (((Bool × Unit) × Unit) × (Unit × Unit)) :=
 .ite ((a0 == (1 : Int)))
 (.ite ((regV a1) == true)
 (.ite ((inV a2 (-1000000 : Int) (1000000 : Int)) == true)
 (.ret (((((a0 == a0) && ((a1 == a1) && ((a2 == a2) && (((0 : Int) == a3) && true)))), ()), ()), ((), ())))
 (.ret (((false, ()), ()), ((), ()))))
 (.ret (((false, ()), ()), ((), ()))))
 (.ite ((a0 == (2 : Int)))
 (.ite ((regV a1) == true)
 (.ite ((regV a2) == true)
 (.ite ((regV a3) == true)
 (.ret (((((a0 == a0) && ((a1 == a1) && ((a2 == a2) && ((a3 == a3) && true)))), ()), ()), ((), ())))
 (.ret (((false, ()), ()), ((), ()))))
 (.ret (((false, ()), ()), ((), ()))))
 (.ret (((false, ()), ()), ((), ()))))
 (.ite ((a0 == (3 : Int)))
 (.ite ((regV a1) == true)
 (.ite ((regV a2) == true)
 (.ite ((regV a3) == true)
 (.ret (((((a0 == a0) && ((a1 == a1) && ((a2 == a2) && ((a3 == a3) && true)))), ()), ()), ((), ())))
 (.ret (((false, ()), ()), ((), ()))))
 (.ret (((false, ()), ()), ((), ()))))
 (.ret (((false, ()), ()), ((), ()))))
 (.ite ((a0 == (4 : Int)))
 (.ite ((regV a1) == true)
 (.ite ((regV a2) == true)
 (.ret (((((a0 == a0) && ((a1 == a1) && ((a2 == a2) && (((0 : Int) == a3) && true)))), ()), ()), ((), ())))
 (.ret (((false, ()), ()), ((), ()))))
 (.ret (((false, ()), ()), ((), ()))))
 (.ite ((a0 == (5 : Int)))
 (.ite ((regV a1) == true)
 (.ite ((regV a2) == true)
 (.ret (((((a0 == a0) && ((a1 == a1) && ((a2 == a2) && (((0 : Int) == a3) && true)))), ()), ()), ((), ())))
 (.ret (((false, ()), ()), ((), ()))))
 (.ret (((false, ()), ()), ((), ()))))
 (.ite ((a0 == (6 : Int)))
 (.ite ((inV a1 (0 : Int) (40 : Int)) == true)
 (.ret (((((a0 == a0) && ((a1 == a1) && (((0 : Int) == a2) && (((0 : Int) == a3) && true)))), ()), ()), ((), ())))
 (.ret (((false, ()), ()), ((), ()))))
 (.ite ((a0 == (7 : Int)))
 (.ite ((regV a1) == true)
 (.ite ((inV a2 (0 : Int) (40 : Int)) == true)
 (.ret (((((a0 == a0) && ((a1 == a1) && ((a2 == a2) && (((0 : Int) == a3) && true)))), ()), ()), ((), ())))
 (.ret (((false, ()), ()), ((), ()))))
 (.ret (((false, ()), ()), ((), ()))))
 (.ite ((a0 == (8 : Int)))
 (.ite ((inV a1 (1 : Int) (20 : Int)) == true)
 (.ret (((((a0 == a0) && ((a1 == a1) && (((0 : Int) == a2) && (((0 : Int) == a3) && true)))), ()), ()), ((), ())))
 (.ret (((false, ()), ()), ((), ()))))
 (.ret (((false, ()), ()), ((), ()))))))))))
def k173 : Con := { f := 173, lend := true, its := [⟨false, true, [.i .i64, .i .i64, .i .i64, .i .i64]⟩], lay := [none], rs := [⟨false, false, [.b]⟩], F := fun x => .ret ((((insOkV x.1.1 x.1.2.1 x.1.2.2.1 x.1.2.2.2.1), ()), ()), ((), ())) }
theorem f173_eq (x : itemsD k173.its) : bodyOut (cxOf [k194, k82]) (fun _ => none) (codeOf Tryz.f173) k173.its k173.lay Tryz.f173.ntmps k173.rs [.tmp 2] x = f173_tree x.1.1 x.1.2.1 x.1.2.2.1 x.1.2.2.2.1 := by kernel_rfl
theorem f173_ok (hr : ∀ x : (Int × Int × Int × Int × Unit) × Unit, itemsWF k173.its x → (f173_tree x.1.1 x.1.2.1 x.1.2.2.1 x.1.2.2.2.1).eval = (k173.F x).eval) : k173.Ok Tryz.prog :=
  con_fn [k194, k82] ⟨k194_ok, k82_ok, trivial⟩ (by kernel_rfl) (codeOf_eq (by kernel_rfl)) (by kernel_rfl) (by kernel_rfl) (by kernel_rfl) f173_eq fun x hw _ hy => (hr x hw).trans hy
theorem k173_ok : k173.Ok Tryz.prog := by
  refine f173_ok fun x _ => ?_
  obtain ⟨⟨o, a, b, c, _⟩, _⟩ := x
  show (f173_tree o a b c).eval = some (((insOkV o a b c, ()), ()), ((), ()))
  unfold f173_tree insOkV
  simp only [Out.eval, zero_eq, beq_self_eq_true, Bool.true_and, Bool.and_true]
  cases (o == (1 : Int))
  rotate_left
  · cases regV a <;> cases inV b (-1000000) 1000000 <;> rfl
  cases (o == (2 : Int))
  rotate_left
  · cases regV a <;> cases regV b <;> cases regV c <;> rfl
  cases (o == (3 : Int))
  rotate_left
  · cases regV a <;> cases regV b <;> cases regV c <;> rfl
  cases (o == (4 : Int))
  rotate_left
  · cases regV a <;> cases regV b <;> rfl
  cases (o == (5 : Int))
  rotate_left
  · cases regV a <;> cases regV b <;> rfl
  cases (o == (6 : Int))
  rotate_left
  · cases inV a 0 40 <;> rfl
  cases (o == (7 : Int))
  rotate_left
  · cases regV a <;> cases inV b 0 40 <;> rfl
  cases (o == (8 : Int))
  · rfl
  · cases inV a 1 20 <;> rfl
def f152_tree (a0 : Int) (a1 : Int) (a2 : Int) (a3 : Int) : Out (((Bool × Unit) × Unit) × (Unit × Unit)) :=
 .ite ((a0 == (1 : Int)))
 (.ite ((regV a1) == true)
 (.ite ((wordV a2) == true)
 (.ret (((((a3 == (0 : Int))), ()), ()), ((), ())))
 (.ret (((false, ()), ()), ((), ()))))
 (.ret (((false, ()), ()), ((), ()))))
 (.ite ((a0 == (2 : Int)))
 (.ite ((regV a1) == true)
 (.ite ((regV a2) == true)
 (.ret ((((regV a3), ()), ()), ((), ())))
 (.ret (((false, ()), ()), ((), ()))))
 (.ret (((false, ()), ()), ((), ()))))
 (.ite ((a0 == (3 : Int)))
 (.ite ((regV a1) == true)
 (.ite ((regV a2) == true)
 (.ret ((((regV a3), ()), ()), ((), ())))
 (.ret (((false, ()), ()), ((), ()))))
 (.ret (((false, ()), ()), ((), ()))))
 (.ite ((a0 == (4 : Int)))
 (.ite ((regV a1) == true)
 (.ite ((regV a2) == true)
 (.ret (((((a3 == (0 : Int))), ()), ()), ((), ())))
 (.ret (((false, ()), ()), ((), ()))))
 (.ret (((false, ()), ()), ((), ()))))
 (.ite ((a0 == (5 : Int)))
 (.ite ((regV a1) == true)
 (.ite ((regV a2) == true)
 (.ret (((((a3 == (0 : Int))), ()), ()), ((), ())))
 (.ret (((false, ()), ()), ((), ()))))
 (.ret (((false, ()), ()), ((), ()))))
 (.ite ((a0 == (6 : Int)))
 (.ite ((placeV a1) == true)
 (.ite (((a2 == (0 : Int))) == true)
 (.ret (((((a3 == (0 : Int))), ()), ()), ((), ())))
 (.ret (((false, ()), ()), ((), ()))))
 (.ret (((false, ()), ()), ((), ()))))
 (.ite ((a0 == (7 : Int)))
 (.ite ((regV a1) == true)
 (.ite ((placeV a2) == true)
 (.ret (((((a3 == (0 : Int))), ()), ()), ((), ())))
 (.ret (((false, ()), ()), ((), ()))))
 (.ret (((false, ()), ()), ((), ()))))
 (.ite ((a0 == (8 : Int)))
 (.ite ((inV a1 (1 : Int) (20 : Int)) == true)
 (.ite (((a2 == (0 : Int))) == true)
 (.ret (((((a3 == (0 : Int))), ()), ()), ((), ())))
 (.ret (((false, ()), ()), ((), ()))))
 (.ret (((false, ()), ()), ((), ()))))
 (.ret (((false, ()), ()), ((), ()))))))))))
def k152 : Con := { f := 152, lend := true, its := [⟨false, true, [.i .i64, .i .i64, .i .i64, .i .i64]⟩], lay := [none], rs := [⟨false, false, [.b]⟩], F := fun x => .ret ((((insOkV x.1.1 x.1.2.1 x.1.2.2.1 x.1.2.2.2.1), ()), ()), ((), ())) }
theorem f152_eq (x : itemsD k152.its) : bodyOut (cxOf [k181, k148, k182, k96]) (fun _ => none) (codeOf Tryz.f152) k152.its k152.lay Tryz.f152.ntmps k152.rs [.tmp 2] x = f152_tree x.1.1 x.1.2.1 x.1.2.2.1 x.1.2.2.2.1 := by kernel_rfl
theorem f152_ok (hr : ∀ x : (Int × Int × Int × Int × Unit) × Unit, itemsWF k152.its x → (f152_tree x.1.1 x.1.2.1 x.1.2.2.1 x.1.2.2.2.1).eval = (k152.F x).eval) : k152.Ok Tryz.prog :=
  con_fn [k181, k148, k182, k96] ⟨k181_ok, k148_ok, k182_ok, k96_ok, trivial⟩ (by kernel_rfl) (codeOf_eq (by kernel_rfl)) (by kernel_rfl) (by kernel_rfl) (by kernel_rfl) f152_eq fun x hw _ hy => (hr x hw).trans hy
theorem k152_ok : k152.Ok Tryz.prog := by
  refine f152_ok fun x _ => ?_
  obtain ⟨⟨o, a, b, c, _⟩, _⟩ := x
  show (f152_tree o a b c).eval = some (((insOkV o a b c, ()), ()), ((), ()))
  unfold f152_tree insOkV placeV wordV
  simp only [Out.eval]
  cases (o == (1 : Int))
  rotate_left
  · cases regV a <;> cases inV b (-1000000) 1000000 <;> rfl
  cases (o == (2 : Int))
  rotate_left
  · cases regV a <;> cases regV b <;> cases regV c <;> rfl
  cases (o == (3 : Int))
  rotate_left
  · cases regV a <;> cases regV b <;> cases regV c <;> rfl
  cases (o == (4 : Int))
  rotate_left
  · cases regV a <;> cases regV b <;> rfl
  cases (o == (5 : Int))
  rotate_left
  · cases regV a <;> cases regV b <;> rfl
  cases (o == (6 : Int))
  rotate_left
  · cases inV a 0 40 <;> cases (b == (0 : Int)) <;> rfl
  cases (o == (7 : Int))
  rotate_left
  · cases regV a <;> cases inV b 0 40 <;> rfl
  cases (o == (8 : Int))
  · rfl
  · cases inV a 1 20 <;> cases (b == (0 : Int)) <;> rfl
def f151_tree (a0 : Int) (a1 : Int) (a2 : Int) (a3 : Int) : Out (((Bool × Unit) × Unit) × (Unit × Unit)) :=
 .ret ((((!(insOkV a0 a1 a2 a3)), ()), ()), ((), ()))
def insNotV (o a b c : Int) : Bool := !insOkV o a b c
def k151 : Con := { f := 151, lend := true, its := [⟨false, true, [.i .i64, .i .i64, .i .i64, .i .i64]⟩], lay := [none], rs := [⟨false, false, [.b]⟩], F := fun x => .ret ((((insNotV x.1.1 x.1.2.1 x.1.2.2.1 x.1.2.2.2.1), ()), ()), ((), ())) }
theorem f151_eq (x : itemsD k151.its) : bodyOut (cxOf [k152]) (fun _ => none) (codeOf Tryz.f151) k151.its k151.lay Tryz.f151.ntmps k151.rs [.tmp 2] x = f151_tree x.1.1 x.1.2.1 x.1.2.2.1 x.1.2.2.2.1 := by kernel_rfl
theorem f151_ok (hr : ∀ x : (Int × Int × Int × Int × Unit) × Unit, itemsWF k151.its x → (f151_tree x.1.1 x.1.2.1 x.1.2.2.1 x.1.2.2.2.1).eval = (k151.F x).eval) : k151.Ok Tryz.prog :=
  con_fn [k152] ⟨k152_ok, trivial⟩ (by kernel_rfl) (codeOf_eq (by kernel_rfl)) (by kernel_rfl) (by kernel_rfl) (by kernel_rfl) f151_eq fun x hw _ hy => (hr x hw).trans hy
theorem k151_ok : k151.Ok Tryz.prog := f151_ok fun _ _ => rfl
def insOk1 (x : InsD) : Bool := insOkV x.1 x.2.1 x.2.2.1 x.2.2.2.1
def progOkV (l : List InsD) : Bool := decide (l.length ≤ 40) && l.all insOk1
abbrev f127_S0 := (List ((Int × Int × Int × Int × Unit)) × Int × Unit) × (Unit)
def f127_L0 (x : f127_S0) : Out (Round f127_S0 ((Unit) × (Unit)) ((Bool × Unit) × (Unit))) :=
 .ite (decide (x.1.2.1 < ((List.length x.1.1 : Nat) : Int)))
 (.ite (decide (0 ≤ x.1.2.1))
 (.get (nth x.1.1 (Int.toNat x.1.2.1)) fun y1 =>
 .ite (!(insOkV y1.1 y1.2.1 y1.2.2.1 y1.2.2.2.1))
 (.ret (.ret ((false, ()), ())))
 (.ret (.again ((x.1.1, (IntKind.i64.wrap (x.1.2.1 + (1 : Int))), ()), ()))))
 .fail)
 (.ret (.out ((), ())))
def f127_tree (a0 : List (Int × Int × Int × Int × Unit)) : Out (((Bool × Unit) × Unit) × (Unit × Unit)) :=
 .ite (decide (((List.length a0 : Nat) : Int) > (40 : Int)))
 (.ret (((false, ()), ()), ((), ())))
 (.get (iter f127_L0 FUEL ((a0, (0 : Int), ()), ())) fun y1 => .alt y1 (fun y2 =>
 .ret (((true, ()), ()), ((), ()))) (fun y3 =>
 .ret (((y3.1.1, ()), ()), ((), ()))))
def f127_A : Nat → Option LoopAnn := fun n => annOf [(0, { head := { t := [.ro (.st (.cons (.int .i64) (.cons (.int .i64) (.cons (.int .i64) (.cons (.int .i64) .nil))))) (some 0), .dead, .dead, .i .i64] ++ dd 15, v := [] }, out := { t := dd 19, v := [] }, ret := some { t := [.dead, .dead, .b] ++ dd 16, v := [] } })] n
def k127 : Con := { f := 127, lend := true, its := [⟨false, false, [.ro (.st (.cons (.int .i64) (.cons (.int .i64) (.cons (.int .i64) (.cons (.int .i64) .nil)))))]⟩], lay := [none], rs := [⟨false, false, [.b]⟩], F := fun x => .ret ((((progOkV x.1.1), ()), ()), ((), ())) }
theorem f127_eq (x : itemsD k127.its) : bodyOut (cxOf [k173]) (f127_A) (codeOf Tryz.f127) k127.its k127.lay Tryz.f127.ntmps k127.rs [.tmp 2] x = f127_tree x.1.1 := by kernel_rfl
theorem f127_ok (hr : ∀ x : (List (Int × Int × Int × Int × Unit) × Unit) × Unit, itemsWF k127.its x → (f127_tree x.1.1).eval = (k127.F x).eval) : k127.Ok Tryz.prog :=
  con_fn [k173] ⟨k173_ok, trivial⟩ (by kernel_rfl) (codeOf_eq (by kernel_rfl)) (by kernel_rfl) (by kernel_rfl) (by kernel_rfl) f127_eq fun x hw _ hy => (hr x hw).trans hy
theorem k127_ok : k127.Ok Tryz.prog := by
  refine f127_ok fun x hw => ?_
  obtain ⟨⟨a, _⟩, _⟩ := x
  have ha : a.length ≤ BIG := hw.1.1.1
  show (f127_tree a).eval = some (((progOkV a, ()), ()), ((), ()))
  unfold f127_tree progOkV
  have e2 : decide (((a.length : Nat) : Int) > (40 : Int)) = !decide (a.length ≤ 40) := gt_cast (m := 40)
  rw [e2]
  by_cases h1 : a.length ≤ 40
  · rw [eval_ite_f (by simp [h1]), decide_eq_true h1, Bool.true_and]
    have := all_loop (f := f127_L0) a insOk1 (fun i => ((a, (((i : Nat) : Int), ())), ())) (y := ((), ())) (z := ((false, ()), ()))
      (fun i hi hp => by
        have g1 := wrap_succ (i := i) (by omega)
        have hp : insOkV a[i].1 a[i].2.1 a[i].2.2.1 a[i].2.2.2.1 = true := hp
        simp [f127_L0, Out.eval, hi, g1, hp])
      (fun i hi hp => by
        have hp : insOkV a[i].1 a[i].2.1 a[i].2.2.1 a[i].2.2.2.1 = false := hp
        simp [f127_L0, Out.eval, hi, hp])
      (by simp [f127_L0, Out.eval]) ha
    refine (eval_get_some this).trans ?_
    cases a.all insOk1 <;> rfl
  · rw [eval_ite_t (by simp [h1]), decide_eq_false h1]; rfl
abbrev f180_S0 := (List ((Int × Int × Int × Int × Unit)) × Int × Int × Unit) × (Unit)
def f180_L0 (x : f180_S0) : Out (Round f180_S0 ((Unit) × (Unit)) ((Int × Unit) × (Unit))) :=
 .ite (decide (x.1.2.2.1 < x.1.2.1))
 (.ite (decide (0 ≤ x.1.2.2.1))
 (.get (nth x.1.1 (Int.toNat x.1.2.2.1)) fun y1 =>
 .ite (insNotV y1.1 y1.2.1 y1.2.2.1 y1.2.2.2.1)
 (.ret (.ret ((x.1.2.2.1, ()), ())))
 (.ret (.again ((x.1.1, x.1.2.1, (IntKind.i64.wrap (x.1.2.2.1 + (1 : Int))), ()), ()))))
 .fail)
 (.ret (.out ((), ())))
def f180_tree (a0 : List (Int × Int × Int × Int × Unit)) : Out (((Int × Unit) × Unit) × (Unit × Unit)) :=
 .get (iter f180_L0 FUEL ((a0, ((List.length a0 : Nat) : Int), (0 : Int), ()), ())) fun y1 => .alt y1 (fun y2 =>
 .ret ((((-1 : Int), ()), ()), ((), ()))) (fun y3 =>
 .ret (((y3.1.1, ()), ()), ((), ())))
def f180_A : Nat → Option LoopAnn := fun n => annOf [(0, { head := { t := [.ro (.st (.cons (.int .i64) (.cons (.int .i64) (.cons (.int .i64) (.cons (.int .i64) .nil))))) (some 0), .fn 151 []] ++ dd 5 ++ [.i .i64, .i .i64] ++ dd 10, v := [] }, out := { t := dd 19, v := [] }, ret := some { t := dd 4 ++ [.i .i64] ++ dd 14, v := [] } })] n
def indexInsV (a : List InsD) : Int := idxV (a.findIdx? fun x => !insOk1 x)
def k180 : Con := { f := 180, lend := true, its := [⟨false, false, [.ro (.st (.cons (.int .i64) (.cons (.int .i64) (.cons (.int .i64) (.cons (.int .i64) .nil)))))]⟩], lay := [none, some (151, 0)], rs := [⟨false, false, [.i .i64]⟩], F := fun x => .ret ((((indexInsV x.1.1), ()), ()), ((), ())) }
theorem f180_eq (x : itemsD k180.its) : bodyOut (cxOf [k151]) (f180_A) (codeOf Tryz.f180) k180.its k180.lay Tryz.f180.ntmps k180.rs [.tmp 4] x = f180_tree x.1.1 := by kernel_rfl
theorem f180_ok (hr : ∀ x : (List (Int × Int × Int × Int × Unit) × Unit) × Unit, itemsWF k180.its x → (f180_tree x.1.1).eval = (k180.F x).eval) : k180.Ok Tryz.prog :=
  con_fn [k151] ⟨k151_ok, trivial⟩ (by kernel_rfl) (codeOf_eq (by kernel_rfl)) (by kernel_rfl) (by kernel_rfl) (by kernel_rfl) f180_eq fun x hw _ hy => (hr x hw).trans hy
theorem k180_ok : k180.Ok Tryz.prog := by
  refine f180_ok fun x hw => ?_
  obtain ⟨⟨a, _⟩, _⟩ := x
  have ha : a.length ≤ BIG := hw.1.1.1
  show (f180_tree a).eval = some (((indexInsV a, ()), ()), ((), ()))
  unfold f180_tree indexInsV
  have := idx_loop (f := f180_L0) a (fun x : InsD => !insOk1 x) (fun i => ((a, (((a.length : Nat) : Int), (((i : Nat) : Int), ()))), ())) (y := ((), ())) (z := fun i => ((((i : Nat) : Int), ()), ()))
    (fun i hi hp => by
      have g1 := wrap_succ (i := i) (by omega)
      have hp : insNotV a[i].1 a[i].2.1 a[i].2.2.1 a[i].2.2.2.1 = false := hp
      simp [f180_L0, Out.eval, hi, g1, hp])
    (fun i hi hp => by
      have hp : insNotV a[i].1 a[i].2.1 a[i].2.2.1 a[i].2.2.2.1 = true := hp
      simp [f180_L0, Out.eval, hi, hp])
    (by simp [f180_L0, Out.eval]) ha
  refine (eval_get_some this).trans ?_
  cases a.findIdx? (fun x : InsD => !insOk1 x) <;> rfl
def f150_tree (a0 : List (Int × Int × Int × Int × Unit)) : Out (((Bool × Unit) × Unit) × (Unit × Unit)) :=
 .ret ((((decide ((indexInsV a0) ≥ (0 : Int))), ()), ()), ((), ()))
def anyInsV (a : List InsD) : Bool := a.any fun x => !insOk1 x
def k150 : Con := { f := 150, lend := true, its := [⟨false, false, [.ro (.st (.cons (.int .i64) (.cons (.int .i64) (.cons (.int .i64) (.cons (.int .i64) .nil)))))]⟩], lay := [none, some (151, 0)], rs := [⟨false, false, [.b]⟩], F := fun x => .ret ((((anyInsV x.1.1), ()), ()), ((), ())) }
theorem f150_eq (x : itemsD k150.its) : bodyOut (cxOf [k180]) (fun _ => none) (codeOf Tryz.f150) k150.its k150.lay Tryz.f150.ntmps k150.rs [.tmp 4] x = f150_tree x.1.1 := by kernel_rfl
theorem f150_ok (hr : ∀ x : (List (Int × Int × Int × Int × Unit) × Unit) × Unit, itemsWF k150.its x → (f150_tree x.1.1).eval = (k150.F x).eval) : k150.Ok Tryz.prog :=
  con_fn [k180] ⟨k180_ok, trivial⟩ (by kernel_rfl) (codeOf_eq (by kernel_rfl)) (by kernel_rfl) (by kernel_rfl) (by kernel_rfl) f150_eq fun x hw _ hy => (hr x hw).trans hy
theorem k150_ok : k150.Ok Tryz.prog := by
  refine f150_ok fun x _ => ?_
  obtain ⟨⟨a, _⟩, _⟩ := x
  show (f150_tree a).eval = some (((anyInsV a, ()), ()), ((), ()))
  unfold f150_tree anyInsV indexInsV
  rw [idxV_ge]
  rfl
def f100_tree (a0 : List (Int × Int × Int × Int × Unit)) : Out (((Bool × Unit) × Unit) × (Unit × Unit)) :=
 .ite ((decide (((List.length a0 : Nat) : Int) ≤ (40 : Int))) == true)
 (.ret ((((!(anyInsV a0)), ()), ()), ((), ())))
 (.ret (((false, ()), ()), ((), ())))
def k100 : Con := { f := 100, lend := true, its := [⟨false, false, [.ro (.st (.cons (.int .i64) (.cons (.int .i64) (.cons (.int .i64) (.cons (.int .i64) .nil)))))]⟩], lay := [none], rs := [⟨false, false, [.b]⟩], F := fun x => .ret ((((progOkV x.1.1), ()), ()), ((), ())) }
theorem f100_eq (x : itemsD k100.its) : bodyOut (cxOf [k150]) (fun _ => none) (codeOf Tryz.f100) k100.its k100.lay Tryz.f100.ntmps k100.rs [.tmp 2] x = f100_tree x.1.1 := by kernel_rfl
theorem f100_ok (hr : ∀ x : (List (Int × Int × Int × Int × Unit) × Unit) × Unit, itemsWF k100.its x → (f100_tree x.1.1).eval = (k100.F x).eval) : k100.Ok Tryz.prog :=
  con_fn [k150] ⟨k150_ok, trivial⟩ (by kernel_rfl) (codeOf_eq (by kernel_rfl)) (by kernel_rfl) (by kernel_rfl) (by kernel_rfl) f100_eq fun x hw _ hy => (hr x hw).trans hy
theorem k100_ok : k100.Ok Tryz.prog := by
  refine f100_ok fun x _ => ?_
  obtain ⟨⟨a, _⟩, _⟩ := x
  show (f100_tree a).eval = some (((progOkV a, ()), ()), ((), ()))
  unfold f100_tree progOkV
  have e2 : decide (((a.length : Nat) : Int) ≤ (40 : Int)) = decide (a.length ≤ 40) := le_cast (m := 40)
  have e4 : a.all insOk1 = !anyInsV a := (not_any a _).symm
  rw [e2, e4]
  by_cases h1 : a.length ≤ 40 <;> simp [Out.eval, h1]
abbrev f131_S0 := (Int × Int × Unit) × ((List UInt8 × Bool × Unit) × List ((Int × Int × Int × Int × Unit)) × Unit)
end Go.Proofs.YtcinpcncclhejaaGreat.Dm
