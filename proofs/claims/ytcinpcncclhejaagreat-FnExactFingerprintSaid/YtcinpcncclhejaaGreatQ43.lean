/- Functions of the program, and what they compute. -/
import Derived.Test.YtcinpcncclhejaaGreatQ42
namespace Go.Proofs.YtcinpcncclhejaaGreat.Dm
open Go Go.ChangeShapes Go.WideShapes Go.ChangeAt Go.RowKit

abbrev f88_S0 := (Int × Int × Unit) × (UnixD × Unit)
def f88_L0 (x : f88_S0) : Out (Round f88_S0 ((Int × Unit) × (UnixD × Unit)) ((Bool × Unit) × (Unit))) :=
 .ite (decide (x.1.2.1 < ((List.length x.2.1.2.2.2.1 : Nat) : Int)))
 (.ite (decide (0 ≤ x.1.2.1))
 (.get (nth x.2.1.2.2.2.1 (Int.toNat x.1.2.1)) fun y1 =>
 .ite ((y1.2.2.1 == (1 : Int)))
 (.ite (decide (0 ≤ x.1.2.1))
 (.get (nth x.2.1.2.2.2.1 (Int.toNat x.1.2.1)) fun y2 =>
 .ite (!(hasV x.2.1.2.2.2.2.2.2.2.1 y2.1))
 (.ret (.ret ((false, ()), ())))
 (.ret (.again (((IntKind.i64.wrap (x.1.1 + (1 : Int))), (IntKind.i64.wrap (x.1.2.1 + (1 : Int))), ()), ((x.2.1.1, x.2.1.2.1, x.2.1.2.2.1, x.2.1.2.2.2.1, x.2.1.2.2.2.2.1, x.2.1.2.2.2.2.2.1, x.2.1.2.2.2.2.2.2.1, x.2.1.2.2.2.2.2.2.2.1, x.2.1.2.2.2.2.2.2.2.2.1, ()), ())))))
 .fail)
 (.ret (.again ((x.1.1, (IntKind.i64.wrap (x.1.2.1 + (1 : Int))), ()), ((x.2.1.1, x.2.1.2.1, x.2.1.2.2.1, x.2.1.2.2.2.1, x.2.1.2.2.2.2.1, x.2.1.2.2.2.2.2.1, x.2.1.2.2.2.2.2.2.1, x.2.1.2.2.2.2.2.2.2.1, x.2.1.2.2.2.2.2.2.2.2.1, ()), ())))))
 .fail)
 (.ret (.out ((x.1.1, ()), ((x.2.1.1, x.2.1.2.1, x.2.1.2.2.1, x.2.1.2.2.2.1, x.2.1.2.2.2.2.1, x.2.1.2.2.2.2.2.1, x.2.1.2.2.2.2.2.2.1, x.2.1.2.2.2.2.2.2.2.1, x.2.1.2.2.2.2.2.2.2.2.1, ()), ()))))
def f88_tree (a0 : Int) (a1 : Int) (a2 : List (List InsD)) (a3 : List ProcD) (a4 : List OpenD) (a5 : List CpuD) (a6 : List CpuD) (a7 : List Int) (a8 : List Int) : Out (((Bool × Unit) × Unit) × (Unit × Unit)) :=
 .get (iter f88_L0 FUEL (((0 : Int), (0 : Int), ()), ((a0, a1, a2, a3, a4, a5, a6, a7, a8, ()), ()))) fun y1 => .alt y1 (fun y2 =>
 .ret (((((y2.1.1 == ((List.length y2.2.1.2.2.2.2.2.2.2.1 : Nat) : Int))), ()), ()), ((), ()))) (fun y3 =>
 .ret (((y3.1.1, ()), ()), ((), ())))
def f88_A : Nat → Option LoopAnn := fun n => annOf [(0, { head := { t := [.dead, .vptr 64000000 0, .dead, .i .i64, .i .i64] ++ dd 31, v := [(64000000, .var [.i .i64, .i .i64, .ro (.sl (.st (.cons (.int .i64) (.cons (.int .i64) (.cons (.int .i64) (.cons (.int .i64) .nil)))))) (some 0), .ro (.st (.cons (.int .i64) (.cons (.int .i64) (.cons (.int .i64) (.cons (.int .i64) (.cons (.st (.cons (.int .i64) (.cons (.sl (.int .i64)) .nil))) (.cons (.sl (.int .i64)) (.cons (.sl (.int .i64)) (.cons (.int .i64) (.cons (.int .i64) .nil)))))))))) (some 1), .ro (.st (.cons (.int .i64) (.cons (.int .i64) (.cons (.int .i64) (.cons (.int .i64) (.cons (.int .i64) .nil)))))) (some 2), .ro (.st (.cons (.int .i64) (.cons (.sl (.int .i64)) .nil))) (some 3), .ro (.st (.cons (.int .i64) (.cons (.sl (.int .i64)) .nil))) (some 4), .ro (.int .i64) (some 5), .ro (.int .i64) (some 6)])] }, out := { t := [.dead, .vptr 64000256 0, .dead, .i .i64] ++ dd 32, v := [(64000256, .var [.i .i64, .i .i64, .ro (.sl (.st (.cons (.int .i64) (.cons (.int .i64) (.cons (.int .i64) (.cons (.int .i64) .nil)))))) (some 0), .ro (.st (.cons (.int .i64) (.cons (.int .i64) (.cons (.int .i64) (.cons (.int .i64) (.cons (.st (.cons (.int .i64) (.cons (.sl (.int .i64)) .nil))) (.cons (.sl (.int .i64)) (.cons (.sl (.int .i64)) (.cons (.int .i64) (.cons (.int .i64) .nil)))))))))) (some 1), .ro (.st (.cons (.int .i64) (.cons (.int .i64) (.cons (.int .i64) (.cons (.int .i64) (.cons (.int .i64) .nil)))))) (some 2), .ro (.st (.cons (.int .i64) (.cons (.sl (.int .i64)) .nil))) (some 3), .ro (.st (.cons (.int .i64) (.cons (.sl (.int .i64)) .nil))) (some 4), .ro (.int .i64) (some 5), .ro (.int .i64) (some 6)])] }, ret := some { t := [.dead, .dead, .b] ++ dd 33, v := [] } })] n
def readyG (rd : List Int) (n : Int) (p : ProcD) : Option Int := if p.2.2.1 = 1 then (if hasV rd p.1 = true then some (IntKind.i64.wrap (n + 1)) else none) else some n
theorem readyG_fold (rd : List Int) : ∀ (ps : List ProcD) (n : Nat), n + ps.length ≤ 9223372036854775807 →
    foldO (readyG rd) ((n : Nat) : Int) ps = if (readyPids ps).all (hasV rd) = true then some ((n + (readyPids ps).length : Nat) : Int) else none
  | [], n, _ => by simp [foldO, readyPids]
  | p :: r, n, h => by
    rw [List.length_cons] at h
    simp only [foldO]
    by_cases hp : p.2.2.1 = 1
    · have e : readyPids (p :: r) = p.1 :: readyPids r := by simp [readyPids, isReadyV, hp, procKey]
      have eg : readyG rd ((n : Nat) : Int) p = if hasV rd p.1 = true then some (IntKind.i64.wrap (((n : Nat) : Int) + 1)) else none := if_pos hp
      rw [eg, e, List.all_cons, List.length_cons]
      by_cases hh : hasV rd p.1 = true
      · rw [if_pos hh, hh, Bool.true_and]
        have ih := readyG_fold rd r (n + 1) (by omega)
        rw [wrap_le (by omega) (by omega), show ((n : Nat) : Int) + 1 = ((n + 1 : Nat) : Int) by omega]
        simp only
        rw [ih]
        congr 2
        omega
      · rw [if_neg hh, Bool.eq_false_iff.2 hh, Bool.false_and, if_neg (by decide)]
    · have e : readyPids (p :: r) = readyPids r := by simp [readyPids, isReadyV, hp]
      have eg : readyG rd ((n : Nat) : Int) p = some ((n : Nat) : Int) := if_neg hp
      rw [eg, e]
      simp only
      exact readyG_fold rd r n (by omega)
def k88 : Con := { f := 88, lend := true, its := [⟨false, true, [.i .i64, .i .i64, .ro (.sl (.st (.cons (.int .i64) (.cons (.int .i64) (.cons (.int .i64) (.cons (.int .i64) .nil)))))), .ro (.st (.cons (.int .i64) (.cons (.int .i64) (.cons (.int .i64) (.cons (.int .i64) (.cons (.st (.cons (.int .i64) (.cons (.sl (.int .i64)) .nil))) (.cons (.sl (.int .i64)) (.cons (.sl (.int .i64)) (.cons (.int .i64) (.cons (.int .i64) .nil)))))))))), .ro (.st (.cons (.int .i64) (.cons (.int .i64) (.cons (.int .i64) (.cons (.int .i64) (.cons (.int .i64) .nil)))))), .ro (.st (.cons (.int .i64) (.cons (.sl (.int .i64)) .nil))), .ro (.st (.cons (.int .i64) (.cons (.sl (.int .i64)) .nil))), .ro (.int .i64), .ro (.int .i64)]⟩], lay := [none], rs := [⟨false, false, [.b]⟩], F := fun x => .ret ((((readyV x.1.2.2.2.1 x.1.2.2.2.2.2.2.2.1), ()), ()), ((), ())) }
theorem f88_eq (x : itemsD k88.its) : bodyOut (cxOf [k141]) (f88_A) (codeOf Tryz.f88) k88.its k88.lay Tryz.f88.ntmps k88.rs [.tmp 2] x = f88_tree x.1.1 x.1.2.1 x.1.2.2.1 x.1.2.2.2.1 x.1.2.2.2.2.1 x.1.2.2.2.2.2.1 x.1.2.2.2.2.2.2.1 x.1.2.2.2.2.2.2.2.1 x.1.2.2.2.2.2.2.2.2.1 := by kernel_rfl
theorem f88_ok (hr : ∀ x : UnixD × Unit, itemsWF k88.its x → (f88_tree x.1.1 x.1.2.1 x.1.2.2.1 x.1.2.2.2.1 x.1.2.2.2.2.1 x.1.2.2.2.2.2.1 x.1.2.2.2.2.2.2.1 x.1.2.2.2.2.2.2.2.1 x.1.2.2.2.2.2.2.2.2.1).eval = (k88.F x).eval) : k88.Ok Tryz.prog :=
  con_fn [k141] ⟨k141_ok, trivial⟩ (by kernel_rfl) (codeOf_eq (by kernel_rfl)) (by kernel_rfl) (by kernel_rfl) (by kernel_rfl) f88_eq fun x hw _ hy => (hr x hw).trans hy
theorem k88_ok : k88.Ok Tryz.prog := by
  refine f88_ok fun x hw => ?_
  obtain ⟨⟨a0, a1, a2, a3, a4, a5, a6, a7, a8, _⟩, _⟩ := x
  have l2 : List.length a2 ≤ BIG := hw.1.1.1
  have l3 : List.length a3 ≤ BIG := hw.1.2.1.1
  have l4 : List.length a4 ≤ BIG := hw.1.2.2.1.1
  have l5 : List.length a5 ≤ BIG := hw.1.2.2.2.1.1
  have l6 : List.length a6 ≤ BIG := hw.1.2.2.2.2.1.1
  have l7 : List.length a7 ≤ BIG := hw.1.2.2.2.2.2.1.1
  have l8 : List.length a8 ≤ BIG := hw.1.2.2.2.2.2.2.1.1
  show (f88_tree a0 a1 a2 a3 a4 a5 a6 a7 a8).eval = some ((((readyV a3 a7), ()), ()), ((), ()))
  unfold f88_tree readyV
  have h := scan_loop (f := f88_L0) a3 (readyG a7) (fun _ _ => True) (fun d i => ((d, ((i : Nat) : Int), ()), ((a0, a1, a2, a3, a4, a5, a6, a7, a8, ()), ()))) (fun d => ((d, ()), ((a0, a1, a2, a3, a4, a5, a6, a7, a8, ()), ()))) ((false, ()), ())
    (fun _ _ _ _ _ _ => trivial)
    (fun i hi d _ => by
      have h1 := wrap_succ (i := i) (by omega)
      unfold readyG
      by_cases q : a3[i].2.2.1 = 1 <;> cases q2 : hasV a7 a3[i].1 <;> simp [f88_L0, Out.eval, hi, h1, cond_eq_ite, q, q2])
    (fun d _ => by simp [f88_L0, Out.eval]) l3 (d := 0) trivial
  have e := readyG_fold a7 a3 0 (by have : List.length a3 ≤ 9223372036854775807 := l3; omega)
  rw [show (((0 : Nat) : Int)) = 0 from rfl] at e
  rw [e] at h
  refine (eval_get_some h).trans ?_
  by_cases q : List.all (readyPids a3) (hasV a7) = true
  · rw [if_pos q, q, Nat.zero_add, Bool.true_and]
    refine (eval_alt_l _).trans ?_
    have e2 : (((List.length (readyPids a3) : Nat) : Int) == ((List.length a7 : Nat) : Int)) = decide (List.length (readyPids a3) = List.length a7) := by rw [Bool.eq_iff_iff]; simp; omega
    dsimp only
    rw [e2]; rfl
  · rw [if_neg q, Bool.eq_false_iff.2 q]; rfl
abbrev f29_S0 := (Int × Unit) × (UnixD × Unit)
def f29_L0 (x : f29_S0) : Out (Round f29_S0 ((Unit) × (UnixD × Unit)) ((Bool × Unit) × (Unit))) :=
 .ite (decide (x.1.1 < ((List.length x.2.1.2.2.2.1 : Nat) : Int)))
 (.ite (decide (0 ≤ x.1.1))
 (.get (nth x.2.1.2.2.2.1 (Int.toNat x.1.1)) fun y1 =>
 .ite ((!(inV y1.1 (1 : Int) (IntKind.i64.wrap (x.2.1.1 - (1 : Int))))) == false)
 (.ite ((decide (x.1.1 > (0 : Int))) == true)
 (.ite (decide (0 ≤ (IntKind.i64.wrap (x.1.1 - (1 : Int)))))
 (.get (nth x.2.1.2.2.2.1 (Int.toNat (IntKind.i64.wrap (x.1.1 - (1 : Int))))) fun y2 =>
 .ite ((decide (y2.1 ≥ y1.1)) == false)
 (.ite (!(procOkS x.2.1.2.1 x.2.1.2.2.1 x.2.1.2.2.2.1 x.2.1.2.2.2.2.1 y1.1 y1.2.1 y1.2.2.1 y1.2.2.2.1 y1.2.2.2.2.1.1 y1.2.2.2.2.1.2.1 y1.2.2.2.2.2.1 y1.2.2.2.2.2.2.1 y1.2.2.2.2.2.2.2.1 y1.2.2.2.2.2.2.2.2.1))
 (.ret (.ret ((false, ()), ())))
 (.ret (.again (((IntKind.i64.wrap (x.1.1 + (1 : Int))), ()), ((x.2.1.1, x.2.1.2.1, x.2.1.2.2.1, x.2.1.2.2.2.1, x.2.1.2.2.2.2.1, x.2.1.2.2.2.2.2.1, x.2.1.2.2.2.2.2.2.1, x.2.1.2.2.2.2.2.2.2.1, x.2.1.2.2.2.2.2.2.2.2.1, ()), ())))))
 (.ret (.ret ((false, ()), ()))))
 .fail)
 (.ite (!(procOkS x.2.1.2.1 x.2.1.2.2.1 x.2.1.2.2.2.1 x.2.1.2.2.2.2.1 y1.1 y1.2.1 y1.2.2.1 y1.2.2.2.1 y1.2.2.2.2.1.1 y1.2.2.2.2.1.2.1 y1.2.2.2.2.2.1 y1.2.2.2.2.2.2.1 y1.2.2.2.2.2.2.2.1 y1.2.2.2.2.2.2.2.2.1))
 (.ret (.ret ((false, ()), ())))
 (.ret (.again (((IntKind.i64.wrap (x.1.1 + (1 : Int))), ()), ((x.2.1.1, x.2.1.2.1, x.2.1.2.2.1, x.2.1.2.2.2.1, x.2.1.2.2.2.2.1, x.2.1.2.2.2.2.2.1, x.2.1.2.2.2.2.2.2.1, x.2.1.2.2.2.2.2.2.2.1, x.2.1.2.2.2.2.2.2.2.2.1, ()), ()))))))
 (.ret (.ret ((false, ()), ()))))
 .fail)
 (.ret (.out ((), ((x.2.1.1, x.2.1.2.1, x.2.1.2.2.1, x.2.1.2.2.2.1, x.2.1.2.2.2.2.1, x.2.1.2.2.2.2.2.1, x.2.1.2.2.2.2.2.2.1, x.2.1.2.2.2.2.2.2.2.1, x.2.1.2.2.2.2.2.2.2.2.1, ()), ()))))
def f29_tree (a0 : Int) (a1 : Int) (a2 : List (List InsD)) (a3 : List ProcD) (a4 : List OpenD) (a5 : List CpuD) (a6 : List CpuD) (a7 : List Int) (a8 : List Int) : Out (((Bool × Unit) × Unit) × (Unit × Unit)) :=
 .ite ((!(inV a0 (1 : Int) (100000 : Int))) == false)
 (.ite ((!(inV a1 (0 : Int) (1000000 : Int))) == false)
 (.ite ((!(progsOkV a2)) == false)
 (.ite ((decide (((List.length a8 : Nat) : Int) > (60 : Int))) == false)
 (.ite ((!(wordsOkV a8)) == false)
 (.ite ((decide (((List.length a3 : Nat) : Int) > (6 : Int))) == false)
 (.ite (decide ((pagesV a3) > (16 : Int)))
 (.ret (((false, ()), ()), ((), ())))
 (.get (iter f29_L0 FUEL (((0 : Int), ()), ((a0, a1, a2, a3, a4, a5, a6, a7, a8, ()), ()))) fun y1 => .alt y1 (fun y2 =>
 .ite ((thingsV y2.2.1.2.2.2.1 y2.2.1.2.2.2.2.1 y2.2.1.2.2.2.2.2.1 y2.2.1.2.2.2.2.2.2.1) == true)
 (.ret ((((readyV y2.2.1.2.2.2.1 y2.2.1.2.2.2.2.2.2.2.1), ()), ()), ((), ())))
 (.ret (((false, ()), ()), ((), ())))) (fun y3 =>
 .ret (((y3.1.1, ()), ()), ((), ())))))
 (.ret (((false, ()), ()), ((), ()))))
 (.ret (((false, ()), ()), ((), ()))))
 (.ret (((false, ()), ()), ((), ()))))
 (.ret (((false, ()), ()), ((), ()))))
 (.ret (((false, ()), ()), ((), ()))))
 (.ret (((false, ()), ()), ((), ())))
def f29_A : Nat → Option LoopAnn := fun n => annOf [(0, { head := { t := [.dead, .vptr 64000000 0, .dead, .i .i64] ++ dd 87, v := [(64000000, .var [.i .i64, .i .i64, .ro (.sl (.st (.cons (.int .i64) (.cons (.int .i64) (.cons (.int .i64) (.cons (.int .i64) .nil)))))) (some 0), .ro (.st (.cons (.int .i64) (.cons (.int .i64) (.cons (.int .i64) (.cons (.int .i64) (.cons (.st (.cons (.int .i64) (.cons (.sl (.int .i64)) .nil))) (.cons (.sl (.int .i64)) (.cons (.sl (.int .i64)) (.cons (.int .i64) (.cons (.int .i64) .nil)))))))))) (some 1), .ro (.st (.cons (.int .i64) (.cons (.int .i64) (.cons (.int .i64) (.cons (.int .i64) (.cons (.int .i64) .nil)))))) (some 2), .ro (.st (.cons (.int .i64) (.cons (.sl (.int .i64)) .nil))) (some 3), .ro (.st (.cons (.int .i64) (.cons (.sl (.int .i64)) .nil))) (some 4), .ro (.int .i64) (some 5), .ro (.int .i64) (some 6)])] }, out := { t := [.dead, .vptr 64000256 0] ++ dd 89, v := [(64000256, .var [.i .i64, .i .i64, .ro (.sl (.st (.cons (.int .i64) (.cons (.int .i64) (.cons (.int .i64) (.cons (.int .i64) .nil)))))) (some 0), .ro (.st (.cons (.int .i64) (.cons (.int .i64) (.cons (.int .i64) (.cons (.int .i64) (.cons (.st (.cons (.int .i64) (.cons (.sl (.int .i64)) .nil))) (.cons (.sl (.int .i64)) (.cons (.sl (.int .i64)) (.cons (.int .i64) (.cons (.int .i64) .nil)))))))))) (some 1), .ro (.st (.cons (.int .i64) (.cons (.int .i64) (.cons (.int .i64) (.cons (.int .i64) (.cons (.int .i64) .nil)))))) (some 2), .ro (.st (.cons (.int .i64) (.cons (.sl (.int .i64)) .nil))) (some 3), .ro (.st (.cons (.int .i64) (.cons (.sl (.int .i64)) .nil))) (some 4), .ro (.int .i64) (some 5), .ro (.int .i64) (some 6)])] }, ret := some { t := [.dead, .dead, .b] ++ dd 88, v := [] } })] n
def k29 : Con := { f := 29, lend := true, its := [⟨false, true, [.i .i64, .i .i64, .ro (.sl (.st (.cons (.int .i64) (.cons (.int .i64) (.cons (.int .i64) (.cons (.int .i64) .nil)))))), .ro (.st (.cons (.int .i64) (.cons (.int .i64) (.cons (.int .i64) (.cons (.int .i64) (.cons (.st (.cons (.int .i64) (.cons (.sl (.int .i64)) .nil))) (.cons (.sl (.int .i64)) (.cons (.sl (.int .i64)) (.cons (.int .i64) (.cons (.int .i64) .nil)))))))))), .ro (.st (.cons (.int .i64) (.cons (.int .i64) (.cons (.int .i64) (.cons (.int .i64) (.cons (.int .i64) .nil)))))), .ro (.st (.cons (.int .i64) (.cons (.sl (.int .i64)) .nil))), .ro (.st (.cons (.int .i64) (.cons (.sl (.int .i64)) .nil))), .ro (.int .i64), .ro (.int .i64)]⟩], lay := [none], rs := [⟨false, false, [.b]⟩], F := fun x => .ret ((((unixOkV x.1.1 x.1.2.1 x.1.2.2.1 x.1.2.2.2.1 x.1.2.2.2.2.1 x.1.2.2.2.2.2.1 x.1.2.2.2.2.2.2.1 x.1.2.2.2.2.2.2.2.1 x.1.2.2.2.2.2.2.2.2.1), ()), ()), ((), ())) }
theorem f29_eq (x : itemsD k29.its) : bodyOut (cxOf [k82, k83, k84, k85, k86, k87, k88]) (f29_A) (codeOf Tryz.f29) k29.its k29.lay Tryz.f29.ntmps k29.rs [.tmp 2] x = f29_tree x.1.1 x.1.2.1 x.1.2.2.1 x.1.2.2.2.1 x.1.2.2.2.2.1 x.1.2.2.2.2.2.1 x.1.2.2.2.2.2.2.1 x.1.2.2.2.2.2.2.2.1 x.1.2.2.2.2.2.2.2.2.1 := by kernel_rfl
theorem f29_ok (hr : ∀ x : UnixD × Unit, itemsWF k29.its x → (f29_tree x.1.1 x.1.2.1 x.1.2.2.1 x.1.2.2.2.1 x.1.2.2.2.2.1 x.1.2.2.2.2.2.1 x.1.2.2.2.2.2.2.1 x.1.2.2.2.2.2.2.2.1 x.1.2.2.2.2.2.2.2.2.1).eval = (k29.F x).eval) : k29.Ok Tryz.prog :=
  con_fn [k82, k83, k84, k85, k86, k87, k88] ⟨k82_ok, k83_ok, k84_ok, k85_ok, k86_ok, k87_ok, k88_ok, trivial⟩ (by kernel_rfl) (codeOf_eq (by kernel_rfl)) (by kernel_rfl) (by kernel_rfl) (by kernel_rfl) f29_eq fun x hw _ hy => (hr x hw).trans hy
theorem k29_ok : k29.Ok Tryz.prog := by
  refine f29_ok fun x hw => ?_
  obtain ⟨⟨a0, a1, a2, a3, a4, a5, a6, a7, a8, _⟩, _⟩ := x
  have l2 : List.length a2 ≤ BIG := hw.1.1.1
  have l3 : List.length a3 ≤ BIG := hw.1.2.1.1
  have l4 : List.length a4 ≤ BIG := hw.1.2.2.1.1
  have l5 : List.length a5 ≤ BIG := hw.1.2.2.2.1.1
  have l6 : List.length a6 ≤ BIG := hw.1.2.2.2.2.1.1
  have l7 : List.length a7 ≤ BIG := hw.1.2.2.2.2.2.1.1
  have l8 : List.length a8 ≤ BIG := hw.1.2.2.2.2.2.2.1.1
  show (f29_tree a0 a1 a2 a3 a4 a5 a6 a7 a8).eval = some ((((unixOkV a0 a1 a2 a3 a4 a5 a6 a7 a8), ()), ()), ((), ()))
  unfold f29_tree
  rw [gt60, gt6]
  by_cases c1 : inV a0 1 100000 = true
  case neg => rw [eval_ite_f (by first | (simp [c1]; done) | (rw [decide_eq_true (by omega)]; done) | (rw [decide_eq_false (by omega)]; done) | (rw [decide_eq_true (by omega)]; rfl) | (rw [decide_eq_false (by omega)]; rfl) | (rw [c1]; rfl) | (rw [Bool.eq_false_iff.2 c1]; rfl))]; simp [Out.eval, unixOkV, c1]
  rw [eval_ite_t (by first | (simp [c1]; done) | (rw [decide_eq_true (by omega)]; done) | (rw [decide_eq_false (by omega)]; done) | (rw [decide_eq_true (by omega)]; rfl) | (rw [decide_eq_false (by omega)]; rfl) | (rw [c1]; rfl) | (rw [Bool.eq_false_iff.2 c1]; rfl))]
  by_cases c2 : inV a1 0 1000000 = true
  case neg => rw [eval_ite_f (by first | (simp [c2]; done) | (rw [decide_eq_true (by omega)]; done) | (rw [decide_eq_false (by omega)]; done) | (rw [decide_eq_true (by omega)]; rfl) | (rw [decide_eq_false (by omega)]; rfl) | (rw [c2]; rfl) | (rw [Bool.eq_false_iff.2 c2]; rfl))]; simp [Out.eval, unixOkV, c2]
  rw [eval_ite_t (by first | (simp [c2]; done) | (rw [decide_eq_true (by omega)]; done) | (rw [decide_eq_false (by omega)]; done) | (rw [decide_eq_true (by omega)]; rfl) | (rw [decide_eq_false (by omega)]; rfl) | (rw [c2]; rfl) | (rw [Bool.eq_false_iff.2 c2]; rfl))]
  by_cases c3 : progsOkV a2 = true
  case neg => rw [eval_ite_f (by first | (simp [c3]; done) | (rw [decide_eq_true (by omega)]; done) | (rw [decide_eq_false (by omega)]; done) | (rw [decide_eq_true (by omega)]; rfl) | (rw [decide_eq_false (by omega)]; rfl) | (rw [c3]; rfl) | (rw [Bool.eq_false_iff.2 c3]; rfl))]; simp [Out.eval, unixOkV, c3]
  rw [eval_ite_t (by first | (simp [c3]; done) | (rw [decide_eq_true (by omega)]; done) | (rw [decide_eq_false (by omega)]; done) | (rw [decide_eq_true (by omega)]; rfl) | (rw [decide_eq_false (by omega)]; rfl) | (rw [c3]; rfl) | (rw [Bool.eq_false_iff.2 c3]; rfl))]
  by_cases c4 : List.length a8 ≤ 60
  case neg => rw [eval_ite_f (by first | (simp [c4]; done) | (rw [decide_eq_true (by omega)]; done) | (rw [decide_eq_false (by omega)]; done) | (rw [decide_eq_true (by omega)]; rfl) | (rw [decide_eq_false (by omega)]; rfl) | (rw [c4]; rfl) | (rw [Bool.eq_false_iff.2 c4]; rfl))]; simp [Out.eval, unixOkV, c4]
  rw [eval_ite_t (by first | (simp [c4]; done) | (rw [decide_eq_true (by omega)]; done) | (rw [decide_eq_false (by omega)]; done) | (rw [decide_eq_true (by omega)]; rfl) | (rw [decide_eq_false (by omega)]; rfl) | (rw [c4]; rfl) | (rw [Bool.eq_false_iff.2 c4]; rfl))]
  by_cases c5 : wordsOkV a8 = true
  case neg => rw [eval_ite_f (by first | (simp [c5]; done) | (rw [decide_eq_true (by omega)]; done) | (rw [decide_eq_false (by omega)]; done) | (rw [decide_eq_true (by omega)]; rfl) | (rw [decide_eq_false (by omega)]; rfl) | (rw [c5]; rfl) | (rw [Bool.eq_false_iff.2 c5]; rfl))]; simp [Out.eval, unixOkV, c5]
  rw [eval_ite_t (by first | (simp [c5]; done) | (rw [decide_eq_true (by omega)]; done) | (rw [decide_eq_false (by omega)]; done) | (rw [decide_eq_true (by omega)]; rfl) | (rw [decide_eq_false (by omega)]; rfl) | (rw [c5]; rfl) | (rw [Bool.eq_false_iff.2 c5]; rfl))]
  by_cases c6 : List.length a3 ≤ 6
  case neg => rw [eval_ite_f (by first | (simp [c6]; done) | (rw [decide_eq_true (by omega)]; done) | (rw [decide_eq_false (by omega)]; done) | (rw [decide_eq_true (by omega)]; rfl) | (rw [decide_eq_false (by omega)]; rfl) | (rw [c6]; rfl) | (rw [Bool.eq_false_iff.2 c6]; rfl))]; simp [Out.eval, unixOkV, c6]
  rw [eval_ite_t (by first | (simp [c6]; done) | (rw [decide_eq_true (by omega)]; done) | (rw [decide_eq_false (by omega)]; done) | (rw [decide_eq_true (by omega)]; rfl) | (rw [decide_eq_false (by omega)]; rfl) | (rw [c6]; rfl) | (rw [Bool.eq_false_iff.2 c6]; rfl))]
  by_cases c7 : pagesV a3 ≤ 16
  case neg => rw [eval_ite_t (by first | (simp [c7]; done) | (rw [decide_eq_true (by omega)]; done) | (rw [decide_eq_false (by omega)]; done) | (rw [decide_eq_true (by omega)]; rfl) | (rw [decide_eq_false (by omega)]; rfl) | (rw [c7]; rfl) | (rw [Bool.eq_false_iff.2 c7]; rfl))]; simp [Out.eval, unixOkV, c7]
  rw [eval_ite_f (by first | (simp [c7]; done) | (rw [decide_eq_true (by omega)]; done) | (rw [decide_eq_false (by omega)]; done) | (rw [decide_eq_true (by omega)]; rfl) | (rw [decide_eq_false (by omega)]; rfl) | (rw [c7]; rfl) | (rw [Bool.eq_false_iff.2 c7]; rfl))]
  have h : iter f29_L0 FUEL (((0 : Int), ()), ((a0, a1, a2, a3, a4, a5, a6, a7, a8, ()), ())) = some (if rowsV procKey (procInV a0 a1 (List.length a2) a3 a4) a3 = true then .inl ((), ((a0, a1, a2, a3, a4, a5, a6, a7, a8, ()), ())) else .inr ((false, ()), ())) := allI_loop (f := f29_L0) (List.length a3) (rowV procKey (procInV a0 a1 (List.length a2) a3 a4) a3) (fun i => ((((i : Nat) : Int), ()), ((a0, a1, a2, a3, a4, a5, a6, a7, a8, ()), ()))) (y := ((), ((a0, a1, a2, a3, a4, a5, a6, a7, a8, ()), ()))) (z := ((false, ()), ()))
      (fun i hi => by
        have w1 := wrap_succ (i := i) (by omega)
        cases i with
        | zero =>
          rw [rowV_zero hi]
          have w3 : decide (((0 : Nat) : Int) > 0) = false := rfl
          try unfold procInV
          try unfold proc1V
          try unfold procKey
          simp only [f29_L0, Out.eval, lt_t hi, ge0, nth_get hi, Option.bind_some, cond_true, cond_false, w1, w3, procOkS]
          cases p0 : inV a3[0].1 1 (IntKind.i64.wrap (a0 - 1)) <;> cases p2 : procOkV a1 (List.length a2) a3 a4 a3[0].1 a3[0].2.1 a3[0].2.2.1 a3[0].2.2.2.1 a3[0].2.2.2.2.1.1 a3[0].2.2.2.2.1.2.1 a3[0].2.2.2.2.2.1 a3[0].2.2.2.2.2.2.1 a3[0].2.2.2.2.2.2.2.1 a3[0].2.2.2.2.2.2.2.2.1 <;> rfl
        | succ i =>
          rw [rowV_succ hi]
          have w2 := wrap_pred i (by omega)
          have w3 : decide (((i + 1 : Nat) : Int) > 0) = true := decide_eq_true (by omega)
          try unfold procInV
          try unfold proc1V
          try unfold procKey
          simp only [f29_L0, Out.eval, lt_t hi, ge0, nth_get hi, Option.bind_some, cond_true, cond_false, w1, w3, procOkS, nth_get (show i < List.length a3 by omega), w2, not_ge]
          cases p0 : inV a3[i + 1].1 1 (IntKind.i64.wrap (a0 - 1)) <;> cases p1 : decide (a3[i].1 < a3[i + 1].1) <;> cases p2 : procOkV a1 (List.length a2) a3 a4 a3[i + 1].1 a3[i + 1].2.1 a3[i + 1].2.2.1 a3[i + 1].2.2.2.1 a3[i + 1].2.2.2.2.1.1 a3[i + 1].2.2.2.2.1.2.1 a3[i + 1].2.2.2.2.2.1 a3[i + 1].2.2.2.2.2.2.1 a3[i + 1].2.2.2.2.2.2.2.1 a3[i + 1].2.2.2.2.2.2.2.2.1 <;> rfl)
      (by simp [f29_L0, Out.eval]) l3
  refine (eval_get_some h).trans ?_
  by_cases q : rowsV procKey (procInV a0 a1 (List.length a2) a3 a4) a3 = true
  case neg => rw [if_neg q]; simp [Out.eval, unixOkV, q]
  rw [if_pos q]
  refine (eval_alt_l _).trans ?_
  dsimp only
  unfold unixOkV
  rw [c1, c2, c3, decide_eq_true c4, c5, decide_eq_true c6, decide_eq_true c7, q]
  cases thingsV a3 a4 a5 a6 <;> cases readyV a3 a7 <;> rfl

end Go.Proofs.YtcinpcncclhejaaGreat.Dm
