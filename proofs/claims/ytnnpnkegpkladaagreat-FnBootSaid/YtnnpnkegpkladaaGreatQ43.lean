/- Functions of the program, and what they compute. -/
import Derived.Test.YtnnpnkegpkladaaGreatQ42
namespace Go.Proofs.YtnnpnkegpkladaaGreat.Dm
open Go Go.ChangeShapes Go.WideShapes Go.ChangeAt Go.RowKit
abbrev f73_S0 := (Int × Int × Unit) × (UnixD × Unit)
def f73_L0 : f73_S0 → Out (Round f73_S0 ((Int × Unit) × (UnixD × Unit)) ((Bool × Unit) × (Unit)))
| ((p0, p1, _), (p2, p3, p4, p5, p6, p7, p8, p9, p10, _), _) =>
 .ite (decide (p1 < ((List.length p5 : Nat) : Int)))
 (.ite (decide (0 ≤ p1))
 (.get (nth p5 (Int.toNat p1)) fun y1 =>
 .ite ((y1.2.2.1 == (1 : Int)))
 (.ite (decide (0 ≤ p1))
 (.get (nth p5 (Int.toNat p1)) fun y2 =>
 .ite (!(hasV p9 y2.1))
 (.ret (.ret ((false, ()), ())))
 (.ret (.again (((IntKind.i64.wrap (p0 + (1 : Int))), (IntKind.i64.wrap (p1 + (1 : Int))), ()), ((p2, p3, p4, p5, p6, p7, p8, p9, p10, ()), ())))))
 .fail)
 (.ret (.again ((p0, (IntKind.i64.wrap (p1 + (1 : Int))), ()), ((p2, p3, p4, p5, p6, p7, p8, p9, p10, ()), ())))))
 .fail)
 (.ret (.out ((p0, ()), ((p2, p3, p4, p5, p6, p7, p8, p9, p10, ()), ()))))
def f73_tree (a0 : Int) (a1 : Int) (a2 : List (List InsD)) (a3 : List ProcD) (a4 : List OpenD) (a5 : List CpuD) (a6 : List CpuD) (a7 : List Int) (a8 : List Int) : Out (((Bool × Unit) × Unit) × (Unit × Unit)) :=
 .get (iter f73_L0 FUEL (((0 : Int), (0 : Int), ()), ((a0, a1, a2, a3, a4, a5, a6, a7, a8, ()), ()))) fun y1 => .alt y1 (fun y2 =>
 .ret (((((y2.1.1 == ((List.length y2.2.1.2.2.2.2.2.2.2.1 : Nat) : Int))), ()), ()), ((), ()))) (fun y3 =>
 .ret (((y3.1.1, ()), ()), ((), ())))
abbrev f73_s0 : List (Nat × VSlot) := [(64000000, .var [.i .i64, .i .i64, .ro (.sl tyN) (some 0), .ro tyP (some 1), .ro tyO (some 2), .ro tyF (some 3), .ro tyF (some 4), .ro (.int .i64) (some 5), .ro (.int .i64) (some 6)])]
def f73_A : Nat → Option LoopAnn := fun n => annOf [(0, ⟨⟨[.dead, .vptr 64000000 0, .dead, .i .i64, .i .i64] ++ dd 31, f73_s0⟩, ⟨[.dead, .vptr 64000000 0, .dead, .i .i64] ++ dd 32, f73_s0⟩, some ⟨[.dead, .dead, .b] ++ dd 33, []⟩, false⟩)] n
def readyG (rd : List Int) (n : Int) (p : ProcD) : Option Int := if p.2.2.1 = 1 then (if hasV rd p.1 = true then some (IntKind.i64.wrap (n + 1)) else none) else some n
theorem readyG_fold (rd : List Int) : ∀ (ps : List ProcD) (n : Nat), n + ps.length ≤ 9223372036854775807 →
    foldO (readyG rd) ((n : Nat) : Int) ps = if (readyPids ps).all (hasV rd) = true then some ((n + (readyPids ps).length : Nat) : Int) else none
  | [], n, _ => by simp [foldO, readyPids]
  | p :: r, n, h => by
    rw [List.length_cons] at h
    simp only [foldO]
    by_cases hp : p.2.2.1 = 1
    · have e : readyPids (p :: r) = p.1 :: readyPids r := by simp [readyPids, isReadyV, hp, procKey]
      have eg : readyG rd ((n : Nat) : Int) p = if hasV rd p.1 = true then some (IntKind.i64.wrap (((n : Nat) : Int) + 1)) else none := if_pos hp
      rw [eg, e, List.all_cons, List.length_cons]
      by_cases hh : hasV rd p.1 = true
      · rw [if_pos hh, hh, Bool.true_and]
        have ih := readyG_fold rd r (n + 1) (by omega)
        rw [wrap_le (by omega) (by omega), show ((n : Nat) : Int) + 1 = ((n + 1 : Nat) : Int) by omega]
        simp only
        rw [ih]
        congr 2
        omega
      · rw [if_neg hh, Bool.eq_false_iff.2 hh, Bool.false_and, if_neg (by decide)]
    · have e : readyPids (p :: r) = readyPids r := by simp [readyPids, isReadyV, hp]
      have eg : readyG rd ((n : Nat) : Int) p = some ((n : Nat) : Int) := if_neg hp
      rw [eg, e]
      simp only
      exact readyG_fold rd r n (by omega)
def k73 : Con := { f := 73, lend := true, its := [⟨false, true, [.i .i64, .i .i64, .ro (.sl tyN), .ro tyP, .ro tyO, .ro tyF, .ro tyF, .ro (.int .i64), .ro (.int .i64)]⟩], lay := [none], rs := [⟨false, false, [.b]⟩], F := fun x => .ret ((((readyV x.1.2.2.2.1 x.1.2.2.2.2.2.2.2.1), ()), ()), ((), ())) }
theorem f73_eq (x : itemsD k73.its) : bo [k75] f73_A Tryz.f73 k73 [.tmp 2] x = f73_tree x.1.1 x.1.2.1 x.1.2.2.1 x.1.2.2.2.1 x.1.2.2.2.2.1 x.1.2.2.2.2.2.1 x.1.2.2.2.2.2.2.1 x.1.2.2.2.2.2.2.2.1 x.1.2.2.2.2.2.2.2.2.1 := by kernel_rfl
theorem f73_ok (hr : ∀ x : UnixD × Unit, itemsWF k73.its x → (f73_tree x.1.1 x.1.2.1 x.1.2.2.1 x.1.2.2.2.1 x.1.2.2.2.2.1 x.1.2.2.2.2.2.1 x.1.2.2.2.2.2.2.1 x.1.2.2.2.2.2.2.2.1 x.1.2.2.2.2.2.2.2.2.1).eval = (k73.F x).eval) : k73.Ok Tryz.prog := con_fn [k75] ⟨k75_ok, trivial⟩ f73_eq fun x hw _ hy => (hr x hw).trans hy
theorem k73_ok : k73.Ok Tryz.prog := by
  refine f73_ok fun x hw => ?_
  obtain ⟨⟨a0, a1, a2, a3, a4, a5, a6, a7, a8, _⟩, _⟩ := x
  have l2 : List.length a2 ≤ BIG := hw.1.1.1
  have l3 : List.length a3 ≤ BIG := hw.1.2.1.1
  have l4 : List.length a4 ≤ BIG := hw.1.2.2.1.1
  have l5 : List.length a5 ≤ BIG := hw.1.2.2.2.1.1
  have l6 : List.length a6 ≤ BIG := hw.1.2.2.2.2.1.1
  have l7 : List.length a7 ≤ BIG := hw.1.2.2.2.2.2.1.1
  have l8 : List.length a8 ≤ BIG := hw.1.2.2.2.2.2.2.1.1
  show (f73_tree a0 a1 a2 a3 a4 a5 a6 a7 a8).eval = some ((((readyV a3 a7), ()), ()), ((), ()))
  unfold f73_tree readyV
  have h := scan_loop (f := f73_L0) a3 (readyG a7) (fun _ _ => True) (fun d i => ((d, ((i : Nat) : Int), ()), ((a0, a1, a2, a3, a4, a5, a6, a7, a8, ()), ()))) (fun d => ((d, ()), ((a0, a1, a2, a3, a4, a5, a6, a7, a8, ()), ()))) ((false, ()), ())
    (fun _ _ _ _ _ _ => trivial)
    (fun i hi d _ => by
      have h1 := wrap_succ (i := i) (by omega)
      unfold readyG
      by_cases q : a3[i].2.2.1 = 1 <;> cases q2 : hasV a7 a3[i].1 <;> simp [f73_L0, Out.eval, hi, h1, cond_eq_ite, q, q2])
    (fun d _ => by simp [f73_L0, Out.eval]) l3 (d := 0) trivial
  have e := readyG_fold a7 a3 0 (by have : List.length a3 ≤ 9223372036854775807 := l3; omega)
  rw [show (((0 : Nat) : Int)) = 0 from rfl] at e
  rw [e] at h
  refine (eval_get_some h).trans ?_
  by_cases q : List.all (readyPids a3) (hasV a7) = true
  · rw [if_pos q, q, Nat.zero_add, Bool.true_and]
    refine (eval_alt_l _).trans ?_
    have e2 : (((List.length (readyPids a3) : Nat) : Int) == ((List.length a7 : Nat) : Int)) = decide (List.length (readyPids a3) = List.length a7) := by rw [Bool.eq_iff_iff]; simp; omega
    dsimp only
    rw [e2]; rfl
  · rw [if_neg q, Bool.eq_false_iff.2 q]; rfl
abbrev f34_S0 := (Int × Unit) × (UnixD × Unit)
def f34_L0 : f34_S0 → Out (Round f34_S0 ((Unit) × (UnixD × Unit)) ((Bool × Unit) × (Unit)))
| ((p0, _), (p1, p2, p3, p4, p5, p6, p7, p8, p9, _), _) =>
 .ite (decide (p0 < ((List.length p4 : Nat) : Int)))
 (.ite (decide (0 ≤ p0))
 (.get (nth p4 (Int.toNat p0)) fun y1 =>
 .ite ((!(inV y1.1 (1 : Int) (IntKind.i64.wrap (p1 - (1 : Int))))) == false)
 (.ite ((decide (p0 > (0 : Int))) == true)
 (.ite (decide (0 ≤ (IntKind.i64.wrap (p0 - (1 : Int)))))
 (.get (nth p4 (Int.toNat (IntKind.i64.wrap (p0 - (1 : Int))))) fun y2 =>
 .ite ((decide (y2.1 ≥ y1.1)) == false)
 (.ite (!(procOkS p2 p3 p4 p5 y1.1 y1.2.1 y1.2.2.1 y1.2.2.2.1 y1.2.2.2.2.1.1 y1.2.2.2.2.1.2.1 y1.2.2.2.2.2.1 y1.2.2.2.2.2.2.1 y1.2.2.2.2.2.2.2.1 y1.2.2.2.2.2.2.2.2.1))
 (.ret (.ret ((false, ()), ())))
 (.ret (.again (((IntKind.i64.wrap (p0 + (1 : Int))), ()), ((p1, p2, p3, p4, p5, p6, p7, p8, p9, ()), ())))))
 (.ret (.ret ((false, ()), ()))))
 .fail)
 (.ite (!(procOkS p2 p3 p4 p5 y1.1 y1.2.1 y1.2.2.1 y1.2.2.2.1 y1.2.2.2.2.1.1 y1.2.2.2.2.1.2.1 y1.2.2.2.2.2.1 y1.2.2.2.2.2.2.1 y1.2.2.2.2.2.2.2.1 y1.2.2.2.2.2.2.2.2.1))
 (.ret (.ret ((false, ()), ())))
 (.ret (.again (((IntKind.i64.wrap (p0 + (1 : Int))), ()), ((p1, p2, p3, p4, p5, p6, p7, p8, p9, ()), ()))))))
 (.ret (.ret ((false, ()), ()))))
 .fail)
 (.ret (.out ((), ((p1, p2, p3, p4, p5, p6, p7, p8, p9, ()), ()))))
def f34_tree (a0 : Int) (a1 : Int) (a2 : List (List InsD)) (a3 : List ProcD) (a4 : List OpenD) (a5 : List CpuD) (a6 : List CpuD) (a7 : List Int) (a8 : List Int) : Out (((Bool × Unit) × Unit) × (Unit × Unit)) :=
 .ite ((!(inV a0 (1 : Int) (100000 : Int))) == false)
 (.ite ((!(inV a1 (0 : Int) (1000000 : Int))) == false)
 (.ite ((!(progsOkV a2)) == false)
 (.ite ((decide (((List.length a8 : Nat) : Int) > (60 : Int))) == false)
 (.ite ((!(wordsOkV a8)) == false)
 (.ite ((decide (((List.length a3 : Nat) : Int) > (6 : Int))) == false)
 (.ite (decide ((pagesV a3) > (16 : Int)))
 (.ret (((false, ()), ()), ((), ())))
 (.get (iter f34_L0 FUEL (((0 : Int), ()), ((a0, a1, a2, a3, a4, a5, a6, a7, a8, ()), ()))) fun y1 => .alt y1 (fun y2 =>
 .ite ((thingsV y2.2.1.2.2.2.1 y2.2.1.2.2.2.2.1 y2.2.1.2.2.2.2.2.1 y2.2.1.2.2.2.2.2.2.1) == true)
 (.ret ((((readyV y2.2.1.2.2.2.1 y2.2.1.2.2.2.2.2.2.2.1), ()), ()), ((), ())))
 (.ret (((false, ()), ()), ((), ())))) (fun y3 =>
 .ret (((y3.1.1, ()), ()), ((), ())))))
 (.ret (((false, ()), ()), ((), ()))))
 (.ret (((false, ()), ()), ((), ()))))
 (.ret (((false, ()), ()), ((), ()))))
 (.ret (((false, ()), ()), ((), ()))))
 (.ret (((false, ()), ()), ((), ()))))
 (.ret (((false, ()), ()), ((), ())))
def f34_A : Nat → Option LoopAnn := fun n => annOf [(0, ⟨⟨[.dead, .vptr 64000000 0, .dead, .i .i64] ++ dd 87, f73_s0⟩, ⟨[.dead, .vptr 64000000 0] ++ dd 89, f73_s0⟩, some ⟨[.dead, .dead, .b] ++ dd 88, []⟩, false⟩)] n
def k34 : Con := { f := 34, lend := true, its := [⟨false, true, [.i .i64, .i .i64, .ro (.sl tyN), .ro tyP, .ro tyO, .ro tyF, .ro tyF, .ro (.int .i64), .ro (.int .i64)]⟩], lay := [none], rs := [⟨false, false, [.b]⟩], F := fun x => .ret ((((unixOkV x.1.1 x.1.2.1 x.1.2.2.1 x.1.2.2.2.1 x.1.2.2.2.2.1 x.1.2.2.2.2.2.1 x.1.2.2.2.2.2.2.1 x.1.2.2.2.2.2.2.2.1 x.1.2.2.2.2.2.2.2.2.1), ()), ()), ((), ())) }
theorem f34_eq (x : itemsD k34.its) : bo [k65, k31, k69, k70, k71, k72, k73] f34_A Tryz.f34 k34 [.tmp 2] x = f34_tree x.1.1 x.1.2.1 x.1.2.2.1 x.1.2.2.2.1 x.1.2.2.2.2.1 x.1.2.2.2.2.2.1 x.1.2.2.2.2.2.2.1 x.1.2.2.2.2.2.2.2.1 x.1.2.2.2.2.2.2.2.2.1 := by kernel_rfl
theorem f34_ok (hr : ∀ x : UnixD × Unit, itemsWF k34.its x → (f34_tree x.1.1 x.1.2.1 x.1.2.2.1 x.1.2.2.2.1 x.1.2.2.2.2.1 x.1.2.2.2.2.2.1 x.1.2.2.2.2.2.2.1 x.1.2.2.2.2.2.2.2.1 x.1.2.2.2.2.2.2.2.2.1).eval = (k34.F x).eval) : k34.Ok Tryz.prog := con_fn [k65, k31, k69, k70, k71, k72, k73] ⟨k65_ok, k31_ok, k69_ok, k70_ok, k71_ok, k72_ok, k73_ok, trivial⟩ f34_eq fun x hw _ hy => (hr x hw).trans hy
theorem k34_ok : k34.Ok Tryz.prog := by
  refine f34_ok fun x hw => ?_
  obtain ⟨⟨a0, a1, a2, a3, a4, a5, a6, a7, a8, _⟩, _⟩ := x
  have l2 : List.length a2 ≤ BIG := hw.1.1.1
  have l3 : List.length a3 ≤ BIG := hw.1.2.1.1
  have l4 : List.length a4 ≤ BIG := hw.1.2.2.1.1
  have l5 : List.length a5 ≤ BIG := hw.1.2.2.2.1.1
  have l6 : List.length a6 ≤ BIG := hw.1.2.2.2.2.1.1
  have l7 : List.length a7 ≤ BIG := hw.1.2.2.2.2.2.1.1
  have l8 : List.length a8 ≤ BIG := hw.1.2.2.2.2.2.2.1.1
  show (f34_tree a0 a1 a2 a3 a4 a5 a6 a7 a8).eval = some ((((unixOkV a0 a1 a2 a3 a4 a5 a6 a7 a8), ()), ()), ((), ()))
  unfold f34_tree
  rw [gt60, gt6]
  by_cases c1 : inV a0 1 100000 = true
  case neg => rw [eval_ite_f (by first | (simp [c1]; done) | (rw [decide_eq_true (by omega)]; done) | (rw [decide_eq_false (by omega)]; done) | (rw [decide_eq_true (by omega)]; rfl) | (rw [decide_eq_false (by omega)]; rfl) | (rw [c1]; rfl) | (rw [Bool.eq_false_iff.2 c1]; rfl))]; simp [Out.eval, unixOkV, c1]
  rw [eval_ite_t (by first | (simp [c1]; done) | (rw [decide_eq_true (by omega)]; done) | (rw [decide_eq_false (by omega)]; done) | (rw [decide_eq_true (by omega)]; rfl) | (rw [decide_eq_false (by omega)]; rfl) | (rw [c1]; rfl) | (rw [Bool.eq_false_iff.2 c1]; rfl))]
  by_cases c2 : inV a1 0 1000000 = true
  case neg => rw [eval_ite_f (by first | (simp [c2]; done) | (rw [decide_eq_true (by omega)]; done) | (rw [decide_eq_false (by omega)]; done) | (rw [decide_eq_true (by omega)]; rfl) | (rw [decide_eq_false (by omega)]; rfl) | (rw [c2]; rfl) | (rw [Bool.eq_false_iff.2 c2]; rfl))]; simp [Out.eval, unixOkV, c2]
  rw [eval_ite_t (by first | (simp [c2]; done) | (rw [decide_eq_true (by omega)]; done) | (rw [decide_eq_false (by omega)]; done) | (rw [decide_eq_true (by omega)]; rfl) | (rw [decide_eq_false (by omega)]; rfl) | (rw [c2]; rfl) | (rw [Bool.eq_false_iff.2 c2]; rfl))]
  by_cases c3 : progsOkV a2 = true
  case neg => rw [eval_ite_f (by first | (simp [c3]; done) | (rw [decide_eq_true (by omega)]; done) | (rw [decide_eq_false (by omega)]; done) | (rw [decide_eq_true (by omega)]; rfl) | (rw [decide_eq_false (by omega)]; rfl) | (rw [c3]; rfl) | (rw [Bool.eq_false_iff.2 c3]; rfl))]; simp [Out.eval, unixOkV, c3]
  rw [eval_ite_t (by first | (simp [c3]; done) | (rw [decide_eq_true (by omega)]; done) | (rw [decide_eq_false (by omega)]; done) | (rw [decide_eq_true (by omega)]; rfl) | (rw [decide_eq_false (by omega)]; rfl) | (rw [c3]; rfl) | (rw [Bool.eq_false_iff.2 c3]; rfl))]
  by_cases c4 : List.length a8 ≤ 60
  case neg => rw [eval_ite_f (by first | (simp [c4]; done) | (rw [decide_eq_true (by omega)]; done) | (rw [decide_eq_false (by omega)]; done) | (rw [decide_eq_true (by omega)]; rfl) | (rw [decide_eq_false (by omega)]; rfl) | (rw [c4]; rfl) | (rw [Bool.eq_false_iff.2 c4]; rfl))]; simp [Out.eval, unixOkV, c4]
  rw [eval_ite_t (by first | (simp [c4]; done) | (rw [decide_eq_true (by omega)]; done) | (rw [decide_eq_false (by omega)]; done) | (rw [decide_eq_true (by omega)]; rfl) | (rw [decide_eq_false (by omega)]; rfl) | (rw [c4]; rfl) | (rw [Bool.eq_false_iff.2 c4]; rfl))]
  by_cases c5 : wordsOkV a8 = true
  case neg => rw [eval_ite_f (by first | (simp [c5]; done) | (rw [decide_eq_true (by omega)]; done) | (rw [decide_eq_false (by omega)]; done) | (rw [decide_eq_true (by omega)]; rfl) | (rw [decide_eq_false (by omega)]; rfl) | (rw [c5]; rfl) | (rw [Bool.eq_false_iff.2 c5]; rfl))]; simp [Out.eval, unixOkV, c5]
  rw [eval_ite_t (by first | (simp [c5]; done) | (rw [decide_eq_true (by omega)]; done) | (rw [decide_eq_false (by omega)]; done) | (rw [decide_eq_true (by omega)]; rfl) | (rw [decide_eq_false (by omega)]; rfl) | (rw [c5]; rfl) | (rw [Bool.eq_false_iff.2 c5]; rfl))]
  by_cases c6 : List.length a3 ≤ 6
  case neg => rw [eval_ite_f (by first | (simp [c6]; done) | (rw [decide_eq_true (by omega)]; done) | (rw [decide_eq_false (by omega)]; done) | (rw [decide_eq_true (by omega)]; rfl) | (rw [decide_eq_false (by omega)]; rfl) | (rw [c6]; rfl) | (rw [Bool.eq_false_iff.2 c6]; rfl))]; simp [Out.eval, unixOkV, c6]
  rw [eval_ite_t (by first | (simp [c6]; done) | (rw [decide_eq_true (by omega)]; done) | (rw [decide_eq_false (by omega)]; done) | (rw [decide_eq_true (by omega)]; rfl) | (rw [decide_eq_false (by omega)]; rfl) | (rw [c6]; rfl) | (rw [Bool.eq_false_iff.2 c6]; rfl))]
  by_cases c7 : pagesV a3 ≤ 16
  case neg => rw [eval_ite_t (by first | (simp [c7]; done) | (rw [decide_eq_true (by omega)]; done) | (rw [decide_eq_false (by omega)]; done) | (rw [decide_eq_true (by omega)]; rfl) | (rw [decide_eq_false (by omega)]; rfl) | (rw [c7]; rfl) | (rw [Bool.eq_false_iff.2 c7]; rfl))]; simp [Out.eval, unixOkV, c7]
  rw [eval_ite_f (by first | (simp [c7]; done) | (rw [decide_eq_true (by omega)]; done) | (rw [decide_eq_false (by omega)]; done) | (rw [decide_eq_true (by omega)]; rfl) | (rw [decide_eq_false (by omega)]; rfl) | (rw [c7]; rfl) | (rw [Bool.eq_false_iff.2 c7]; rfl))]
  have h : iter f34_L0 FUEL (((0 : Int), ()), ((a0, a1, a2, a3, a4, a5, a6, a7, a8, ()), ())) = some (if rowsV procKey (procInV a0 a1 (List.length a2) a3 a4) a3 = true then .inl ((), ((a0, a1, a2, a3, a4, a5, a6, a7, a8, ()), ())) else .inr ((false, ()), ())) := allI_loop (f := f34_L0) (List.length a3) (rowV procKey (procInV a0 a1 (List.length a2) a3 a4) a3) (fun i => ((((i : Nat) : Int), ()), ((a0, a1, a2, a3, a4, a5, a6, a7, a8, ()), ()))) (y := ((), ((a0, a1, a2, a3, a4, a5, a6, a7, a8, ()), ()))) (z := ((false, ()), ()))
      (fun i hi => by
        have w1 := wrap_succ (i := i) (by omega)
        cases i with
        | zero =>
          rw [rowV_zero hi]
          have w3 : decide (((0 : Nat) : Int) > 0) = false := rfl
          try unfold procInV
          try unfold proc1V
          try unfold procKey
          simp only [f34_L0, Out.eval, lt_t hi, ge0, nth_get hi, Option.bind_some, cond_true, cond_false, w1, w3, procOkS]
          cases p0 : inV a3[0].1 1 (IntKind.i64.wrap (a0 - 1)) <;> cases p2 : procOkV a1 (List.length a2) a3 a4 a3[0].1 a3[0].2.1 a3[0].2.2.1 a3[0].2.2.2.1 a3[0].2.2.2.2.1.1 a3[0].2.2.2.2.1.2.1 a3[0].2.2.2.2.2.1 a3[0].2.2.2.2.2.2.1 a3[0].2.2.2.2.2.2.2.1 a3[0].2.2.2.2.2.2.2.2.1 <;> rfl
        | succ i =>
          rw [rowV_succ hi]
          have w2 := wrap_pred i (by omega)
          have w3 : decide (((i + 1 : Nat) : Int) > 0) = true := decide_eq_true (by omega)
          try unfold procInV
          try unfold proc1V
          try unfold procKey
          simp only [f34_L0, Out.eval, lt_t hi, ge0, nth_get hi, Option.bind_some, cond_true, cond_false, w1, w3, procOkS, nth_get (show i < List.length a3 by omega), w2, not_ge]
          cases p0 : inV a3[i + 1].1 1 (IntKind.i64.wrap (a0 - 1)) <;> cases p1 : decide (a3[i].1 < a3[i + 1].1) <;> cases p2 : procOkV a1 (List.length a2) a3 a4 a3[i + 1].1 a3[i + 1].2.1 a3[i + 1].2.2.1 a3[i + 1].2.2.2.1 a3[i + 1].2.2.2.2.1.1 a3[i + 1].2.2.2.2.1.2.1 a3[i + 1].2.2.2.2.2.1 a3[i + 1].2.2.2.2.2.2.1 a3[i + 1].2.2.2.2.2.2.2.1 a3[i + 1].2.2.2.2.2.2.2.2.1 <;> rfl)
      (by simp [f34_L0, Out.eval]) l3
  refine (eval_get_some h).trans ?_
  by_cases q : rowsV procKey (procInV a0 a1 (List.length a2) a3 a4) a3 = true
  case neg => rw [if_neg q]; simp [Out.eval, unixOkV, q]
  rw [if_pos q]
  refine (eval_alt_l _).trans ?_
  dsimp only
  unfold unixOkV
  rw [c1, c2, c3, decide_eq_true c4, c5, decide_eq_true c6, decide_eq_true c7, q]
  cases thingsV a3 a4 a5 a6 <;> cases readyV a3 a7 <;> rfl
end Go.Proofs.YtnnpnkegpkladaaGreat.Dm
