/- Functions of the program, and what they compute. -/
import Derived.Test.YtnnpnkegpkladaaGreatQ41
namespace Go.Proofs.YtnnpnkegpkladaaGreat.Dm
open Go Go.ChangeShapes Go.WideShapes Go.ChangeAt Go.RowKit
theorem kind_tail {β : Type} (kind target off : Int) (pipes : List PipeD) (files : List FileD) (r : Bool → β) :
    (Out.ite (kind == (1 : Int)) (.ite ((target == (0 : Int)) == true) (.ret (r (off == (0 : Int)))) (.ret (r false)))
      (.ite (kind == (2 : Int)) (.ite ((decide (fileAtV files target ≥ (0 : Int))) == true) (.ite (decide (0 ≤ fileAtV files target)) (.get (nth files (Int.toNat (fileAtV files target))) fun y2 => .ret (r (inV off (0 : Int) ((List.length y2.2.1 : Nat) : Int)))) .fail) (.ret (r false)))
        (.ite (kind == (3 : Int)) (.ite ((decide (pipeAtV pipes target ≥ (0 : Int))) == true) (.ret (r (off == (0 : Int)))) (.ret (r false)))
          (.ite (kind == (4 : Int)) (.ite ((decide (pipeAtV pipes target ≥ (0 : Int))) == true) (.ret (r (off == (0 : Int)))) (.ret (r false))) (.ret (r false)))))).eval = some (r (kindOkV pipes files kind target off)) := by
  unfold kindOkV
  simp only [Out.eval, cond_eq_ite]
  by_cases h1 : kind = 1
  · by_cases h : target = 0
    · simp [h1, h]
    · have : (target == (0 : Int)) = false := by simpa using h
      simp [h1, h, this]
  by_cases h2 : kind = 2
  · cases hx : idxBy fileKey files target with
    | none =>
      have e3 : fileAtV files target = -1 := placeBy_none hx
      simp [h2, e3]
    | some i =>
      have hi := idxBy_lt hx
      have e3 : fileAtV files target = ((i : Nat) : Int) := placeBy_some hx
      simp [h2, e3, nth, hi]
  by_cases h3 : kind = 3
  · by_cases h : 0 ≤ pipeAtV pipes target <;> simp [h3, h]
  by_cases h4 : kind = 4
  · by_cases h : 0 ≤ pipeAtV pipes target <;> simp [h4, h]
  simp [h1, h2, h3, h4]
abbrev f165_S2 := (Int × Int × Int × Unit) × (UnixD × OpenD × Unit)
def f165_L2 : f165_S2 → Out (Round f165_S2 ((Int × Int × Unit) × (UnixD × OpenD × Unit)) Empty)
| ((p0, p1, p2, _), (p3, p4, p5, p6, p7, p8, p9, p10, p11, _), (p12, p13, p14, p15, p16, _), _) =>
 .ite (decide (0 ≤ p1))
 (.get (nth p6 (Int.toNat p1)) fun y1 =>
 .ite (decide (p2 < ((List.length y1.2.2.2.2.2.2.1 : Nat) : Int)))
 (.ite (decide (0 ≤ p1))
 (.get (nth p6 (Int.toNat p1)) fun y2 =>
 .ite (decide (0 ≤ p2))
 (.get (nth y2.2.2.2.2.2.2.1 (Int.toNat p2)) fun y3 =>
 .ite ((y3 == p12))
 (.ret (.again (((IntKind.i64.wrap (p0 + (1 : Int))), p1, (IntKind.i64.wrap (p2 + (1 : Int))), ()), ((p3, p4, p5, p6, p7, p8, p9, p10, p11, ()), (p12, p13, p14, p15, p16, ()), ()))))
 (.ret (.again ((p0, p1, (IntKind.i64.wrap (p2 + (1 : Int))), ()), ((p3, p4, p5, p6, p7, p8, p9, p10, p11, ()), (p12, p13, p14, p15, p16, ()), ())))))
 .fail)
 .fail)
 (.ret (.out ((p0, p1, ()), ((p3, p4, p5, p6, p7, p8, p9, p10, p11, ()), (p12, p13, p14, p15, p16, ()), ())))))
 .fail
abbrev f165_S0 := (Int × Int × Unit) × (UnixD × OpenD × Unit)
def f165_L0 : f165_S0 → Out (Round f165_S0 ((Int × Unit) × (UnixD × OpenD × Unit)) Empty)
| ((p0, p1, _), (p2, p3, p4, p5, p6, p7, p8, p9, p10, _), (p11, p12, p13, p14, p15, _), _) =>
 .ite (decide (p1 < ((List.length p5 : Nat) : Int)))
 (.get (iter1 f165_L2 FUEL ((p0, p1, (0 : Int), ()), ((p2, p3, p4, p5, p6, p7, p8, p9, p10, ()), (p11, p12, p13, p14, p15, ()), ()))) fun y1 =>
 .ret (.again ((y1.1.1, (IntKind.i64.wrap (y1.1.2.1 + (1 : Int))), ()), ((y1.2.1.1, y1.2.1.2.1, y1.2.1.2.2.1, y1.2.1.2.2.2.1, y1.2.1.2.2.2.2.1, y1.2.1.2.2.2.2.2.1, y1.2.1.2.2.2.2.2.2.1, y1.2.1.2.2.2.2.2.2.2.1, y1.2.1.2.2.2.2.2.2.2.2.1, ()), (y1.2.2.1.1, y1.2.2.1.2.1, y1.2.2.1.2.2.1, y1.2.2.1.2.2.2.1, y1.2.2.1.2.2.2.2.1, ()), ()))))
 (.ret (.out ((p0, ()), ((p2, p3, p4, p5, p6, p7, p8, p9, p10, ()), (p11, p12, p13, p14, p15, ()), ()))))
def f165_tree (a0 : Int) (a1 : Int) (a2 : List (List InsD)) (a3 : List ProcD) (a4 : List OpenD) (a5 : List CpuD) (a6 : List CpuD) (a7 : List Int) (a8 : List Int) (a9 : Int) (a10 : Int) (a11 : Int) (a12 : Int) (a13 : Int) : Out (((Bool × Unit) × Unit) × XI) :=
 .get (iter1 f165_L0 FUEL (((0 : Int), (0 : Int), ()), ((a0, a1, a2, a3, a4, a5, a6, a7, a8, ()), (a9, a10, a11, a12, a13, ()), ()))) fun y1 =>
 .ite (((y1.1.1 == (0 : Int))) == false)
 (.ite (((y1.2.2.1.2.2.2.2.1 != y1.1.1)) == false)
 (.ite (!(inV y1.2.2.1.1 (0 : Int) (7 : Int)))
 (.ret (((false, ()), ()), ((), (), ())))
 (.ite ((y1.2.2.1.2.1 == (1 : Int)))
 (.ite (((y1.2.2.1.2.2.1 == (0 : Int))) == true)
 (.ret (((((y1.2.2.1.2.2.2.1 == (0 : Int))), ()), ()), ((), (), ())))
 (.ret (((false, ()), ()), ((), (), ()))))
 (.ite ((y1.2.2.1.2.1 == (2 : Int)))
 (.ite ((decide ((fileAtV y1.2.1.2.2.2.2.2.2.1 y1.2.2.1.2.2.1) ≥ (0 : Int))) == true)
 (.ite (decide (0 ≤ (fileAtV y1.2.1.2.2.2.2.2.2.1 y1.2.2.1.2.2.1)))
 (.get (nth y1.2.1.2.2.2.2.2.2.1 (Int.toNat (fileAtV y1.2.1.2.2.2.2.2.2.1 y1.2.2.1.2.2.1))) fun y2 =>
 .ret ((((inV y1.2.2.1.2.2.2.1 (0 : Int) ((List.length y2.2.1 : Nat) : Int)), ()), ()), ((), (), ())))
 .fail)
 (.ret (((false, ()), ()), ((), (), ()))))
 (.ite ((y1.2.2.1.2.1 == (3 : Int)))
 (.ite ((decide ((pipeAtV y1.2.1.2.2.2.2.2.1 y1.2.2.1.2.2.1) ≥ (0 : Int))) == true)
 (.ret (((((y1.2.2.1.2.2.2.1 == (0 : Int))), ()), ()), ((), (), ())))
 (.ret (((false, ()), ()), ((), (), ()))))
 (.ite ((y1.2.2.1.2.1 == (4 : Int)))
 (.ite ((decide ((pipeAtV y1.2.1.2.2.2.2.2.1 y1.2.2.1.2.2.1) ≥ (0 : Int))) == true)
 (.ret (((((y1.2.2.1.2.2.2.1 == (0 : Int))), ()), ()), ((), (), ())))
 (.ret (((false, ()), ()), ((), (), ()))))
 (.ret (((false, ()), ()), ((), (), ()))))))))
 (.ret (((false, ()), ()), ((), (), ()))))
 (.ret (((false, ()), ()), ((), (), ())))
abbrev f165_s0 : List (Nat × VSlot) := [(64000000, .var [.i .i64, .i .i64, .ro (.sl tyN) (some 0), .ro tyP (some 1), .ro tyO (some 2), .ro tyF (some 3), .ro tyF (some 4), .ro (.int .i64) (some 5), .ro (.int .i64) (some 6)]), (64000001, .var [.i .i64, .i .i64, .i .i64, .i .i64, .i .i64])]
def f165_A : Nat → Option LoopAnn := fun n => annOf [(0, ⟨⟨[.dead, .dead, .vptr 64000000 0, .vptr 64000001 0, .dead, .i .i64, .i .i64] ++ dd 94, f165_s0⟩, ⟨[.dead, .dead, .vptr 64000000 0, .vptr 64000001 0, .dead, .i .i64] ++ dd 95, f165_s0⟩, none, false⟩), (2, ⟨⟨[.dead, .dead, .vptr 64000000 0, .vptr 64000001 0, .dead, .i .i64, .i .i64, .i .i64] ++ dd 93, f165_s0⟩, ⟨[.dead, .dead, .vptr 64000000 0, .vptr 64000001 0, .dead, .i .i64, .i .i64] ++ dd 94, f165_s0⟩, none, false⟩)] n
def k165 : Con := { f := 165, lend := true, its := [⟨false, true, [.i .i64, .i .i64, .ro (.sl tyN), .ro tyP, .ro tyO, .ro tyF, .ro tyF, .ro (.int .i64), .ro (.int .i64)]⟩, ⟨false, true, [.i .i64, .i .i64, .i .i64, .i .i64, .i .i64]⟩], lay := [none, none], rs := [⟨false, false, [.b]⟩], F := fun x => .ret ((((openOkV x.1.2.2.2.1 x.1.2.2.2.2.2.1 x.1.2.2.2.2.2.2.1 x.2.1.1 x.2.1.2.1 x.2.1.2.2.1 x.2.1.2.2.2.1 x.2.1.2.2.2.2.1), ()), ()), ((), (), ())) }
theorem f165_eq (x : itemsD k165.its) : bo [k65, k240, k76] f165_A Tryz.f165 k165 [.tmp 4] x = f165_tree x.1.1 x.1.2.1 x.1.2.2.1 x.1.2.2.2.1 x.1.2.2.2.2.1 x.1.2.2.2.2.2.1 x.1.2.2.2.2.2.2.1 x.1.2.2.2.2.2.2.2.1 x.1.2.2.2.2.2.2.2.2.1 x.2.1.1 x.2.1.2.1 x.2.1.2.2.1 x.2.1.2.2.2.1 x.2.1.2.2.2.2.1 := by kernel_rfl
theorem f165_ok (hr : ∀ x : UnixD × OpenD × Unit, itemsWF k165.its x → (f165_tree x.1.1 x.1.2.1 x.1.2.2.1 x.1.2.2.2.1 x.1.2.2.2.2.1 x.1.2.2.2.2.2.1 x.1.2.2.2.2.2.2.1 x.1.2.2.2.2.2.2.2.1 x.1.2.2.2.2.2.2.2.2.1 x.2.1.1 x.2.1.2.1 x.2.1.2.2.1 x.2.1.2.2.2.1 x.2.1.2.2.2.2.1).eval = (k165.F x).eval) : k165.Ok Tryz.prog := con_fn [k65, k240, k76] ⟨k65_ok, k240_ok, k76_ok, trivial⟩ f165_eq fun x hw _ hy => (hr x hw).trans hy
theorem k165_ok : k165.Ok Tryz.prog := by
  refine f165_ok fun x hw => ?_
  obtain ⟨⟨a0, a1, a2, a3, a4, a5, a6, a7, a8, _⟩, ⟨a9, a10, a11, a12, a13, _⟩, _⟩ := x
  have l2 : List.length a2 ≤ BIG := hw.1.1.1
  have l3 : List.length a3 ≤ BIG := hw.1.2.1.1
  have l4 : List.length a4 ≤ BIG := hw.1.2.2.1.1
  have l5 : List.length a5 ≤ BIG := hw.1.2.2.2.1.1
  have l6 : List.length a6 ≤ BIG := hw.1.2.2.2.2.1.1
  have l7 : List.length a7 ≤ BIG := hw.1.2.2.2.2.2.1.1
  have l8 : List.length a8 ≤ BIG := hw.1.2.2.2.2.2.2.1.1
  show (f165_tree a0 a1 a2 a3 a4 a5 a6 a7 a8 a9 a10 a11 a12 a13).eval = some ((((openOkV a3 a5 a6 a9 a10 a11 a12 a13), ()), ()), ((), (), ()))
  unfold f165_tree
  have inner : ∀ (n : Int) (j : Nat) (hj : j < List.length a3), iter1 f165_L2 FUEL ((n, ((j : Nat) : Int), (0 : Int), ()), ((a0, a1, a2, a3, a4, a5, a6, a7, a8, ()), (a9, a10, a11, a12, a13, ()), ())) =
      some ((List.foldl (fun n f => cntV f a9 n) n a3[j].2.2.2.2.2.2.1, ((j : Nat) : Int), ()), ((a0, a1, a2, a3, a4, a5, a6, a7, a8, ()), (a9, a10, a11, a12, a13, ()), ())) := fun n j hj => by
    have lj : List.length a3[j].2.2.2.2.2.2.1 ≤ BIG := (hw.1.2.1.2 j a3[j] (List.getElem?_eq_getElem hj)).2.2.2.2.2.2.1.1
    exact foldl_loop (f := f165_L2) (fun _ _ => True) (fun n f => cntV f a9 n) a3[j].2.2.2.2.2.2.1 (fun d i => ((d, ((j : Nat) : Int), ((i : Nat) : Int), ()), ((a0, a1, a2, a3, a4, a5, a6, a7, a8, ()), (a9, a10, a11, a12, a13, ()), ())))
      (fun d => ((d, ((j : Nat) : Int), ()), ((a0, a1, a2, a3, a4, a5, a6, a7, a8, ()), (a9, a10, a11, a12, a13, ()), ())))
      (fun i hi d _ => by
        have h1 := wrap_succ (i := i) (by omega)
        by_cases q : a3[j].2.2.2.2.2.2.1[i] = a9 <;> simp [f165_L2, Out.eval, hj, hi, h1, cntV, cond_eq_ite, q])
      (fun d _ => by simp [f165_L2, Out.eval, hj]) (fun _ _ _ _ => trivial) lj n trivial
  have h : iter1 f165_L0 FUEL (((0 : Int), (0 : Int), ()), ((a0, a1, a2, a3, a4, a5, a6, a7, a8, ()), (a9, a10, a11, a12, a13, ()), ())) = some (((List.foldl (fun (n : Int) (p : ProcD) => p.2.2.2.2.2.2.1.foldl (fun n f => cntV f a9 n) n) (0 : Int) a3), ()), ((a0, a1, a2, a3, a4, a5, a6, a7, a8, ()), (a9, a10, a11, a12, a13, ()), ())) := foldl_loop (f := f165_L0) (fun _ _ => True) (fun (n : Int) (p : ProcD) => p.2.2.2.2.2.2.1.foldl (fun n f => cntV f a9 n) n) a3 (fun d i => ((d, ((i : Nat) : Int), ()), ((a0, a1, a2, a3, a4, a5, a6, a7, a8, ()), (a9, a10, a11, a12, a13, ()), ()))) (fun d => ((d, ()), ((a0, a1, a2, a3, a4, a5, a6, a7, a8, ()), (a9, a10, a11, a12, a13, ()), ())))
      (fun i hi d _ => by
        have h1 := wrap_succ (i := i) (by omega)
        simp [f165_L0, Out.eval, hi, h1, inner d i hi])
      (fun d _ => by simp [f165_L0, Out.eval]) (fun _ _ _ _ => trivial) l3 (0 : Int) trivial
  refine (eval_get_some h).trans ?_
  have er : List.foldl (fun (n : Int) (p : ProcD) => p.2.2.2.2.2.2.1.foldl (fun n f => cntV f a9 n) n) 0 a3 = refsV a3 a9 := rfl
  rw [er]
  dsimp only
  unfold openOkV
  generalize refsV a3 a9 = r
  by_cases c1 : r = 0
  · rw [eval_ite_f (by simp [c1])]; simp [Out.eval, c1]
  rw [eval_ite_t (by simp [c1])]
  by_cases c2 : a13 = r
  case neg => rw [eval_ite_f (by simp [c2])]; simp [Out.eval, c2]
  rw [eval_ite_t (by simp [c2])]
  by_cases c3 : inV a9 0 7 = true
  case neg => rw [eval_ite_t (by simp [c3])]; simp [Out.eval, c3]
  rw [eval_ite_f (by simp [c3])]
  refine (kind_tail a10 a11 a12 a5 a6 (fun b => (((b, ()), ()), ((), (), ())))).trans ?_
  simp [c1, c2, c3]
abbrev f77_S0 := InsD × (UnixD × Unit)
def f77_L0 : f77_S0 → Out (Round f77_S0 ((Int × Unit) × (Unit)) Empty)
| ((p0, p1, p2, p3, _), (p4, p5, p6, p7, p8, p9, p10, p11, p12, _), _) =>
 .ite (decide (p3 < ((List.length p8 : Nat) : Int)))
 (.ite (decide (0 ≤ p3))
 (.get (nth p8 (Int.toNat p3)) fun y1 =>
 .ite (((y1.2.1 == p1)) == true)
 (.ite (decide (0 ≤ p3))
 (.get (nth p8 (Int.toNat p3)) fun y2 =>
 .ite ((y2.2.2.1 == p0))
 (.ret (.again ((p0, p1, (IntKind.i64.wrap (p2 + (1 : Int))), (IntKind.i64.wrap (p3 + (1 : Int))), ()), ((p4, p5, p6, p7, p8, p9, p10, p11, p12, ()), ()))))
 (.ret (.again ((p0, p1, p2, (IntKind.i64.wrap (p3 + (1 : Int))), ()), ((p4, p5, p6, p7, p8, p9, p10, p11, p12, ()), ())))))
 .fail)
 (.ret (.again ((p0, p1, p2, (IntKind.i64.wrap (p3 + (1 : Int))), ()), ((p4, p5, p6, p7, p8, p9, p10, p11, p12, ()), ())))))
 .fail)
 (.ret (.out ((p2, ()), ())))
def f77_tree (a0 : Int) (a1 : Int) (a2 : List (List InsD)) (a3 : List ProcD) (a4 : List OpenD) (a5 : List CpuD) (a6 : List CpuD) (a7 : List Int) (a8 : List Int) (a9 : Int) (a10 : Int) : Out (((Int × Unit) × Unit) × (Unit × XI)) :=
 .get (iter1 f77_L0 FUEL ((a9, a10, (0 : Int), (0 : Int), ()), ((a0, a1, a2, a3, a4, a5, a6, a7, a8, ()), ()))) fun y1 =>
 .ret (((y1.1.1, ()), ()), ((), (), (), ()))
abbrev f77_s1 : List (Nat × VSlot) := [(64000000, .var [.i .i64, .i .i64, .ro (.sl tyN) (some 0), .ro tyP (some 1), .ro tyO (some 2), .ro tyF (some 3), .ro tyF (some 4), .ro (.int .i64) (some 5), .ro (.int .i64) (some 6)])]
def f77_A : Nat → Option LoopAnn := fun n => annOf [(0, ⟨⟨[.dead, .i .i64, .i .i64, .vptr 64000000 0, .dead, .dead, .dead, .i .i64, .i .i64] ++ dd 28, f77_s1⟩, ⟨dd 7 ++ [.i .i64] ++ dd 29, []⟩, none, false⟩)] n
def k77 : Con := { f := 77, lend := true, its := [⟨false, true, [.i .i64, .i .i64, .ro (.sl tyN), .ro tyP, .ro tyO, .ro tyF, .ro tyF, .ro (.int .i64), .ro (.int .i64)]⟩, ⟨false, false, [.i .i64]⟩, ⟨false, false, [.i .i64]⟩], lay := [none, none, none], rs := [⟨false, false, [.i .i64]⟩], F := fun x => .ret ((((endsV x.1.2.2.2.2.1 x.2.1.1 x.2.2.1.1), ()), ()), ((), (), (), ())) }
theorem f77_eq (x : itemsD k77.its) : bo [] f77_A Tryz.f77 k77 [.tmp 6] x = f77_tree x.1.1 x.1.2.1 x.1.2.2.1 x.1.2.2.2.1 x.1.2.2.2.2.1 x.1.2.2.2.2.2.1 x.1.2.2.2.2.2.2.1 x.1.2.2.2.2.2.2.2.1 x.1.2.2.2.2.2.2.2.2.1 x.2.1.1 x.2.2.1.1 := by kernel_rfl
theorem f77_ok (hr : ∀ x : UnixD × (Int × Unit) × (Int × Unit) × Unit, itemsWF k77.its x → (f77_tree x.1.1 x.1.2.1 x.1.2.2.1 x.1.2.2.2.1 x.1.2.2.2.2.1 x.1.2.2.2.2.2.1 x.1.2.2.2.2.2.2.1 x.1.2.2.2.2.2.2.2.1 x.1.2.2.2.2.2.2.2.2.1 x.2.1.1 x.2.2.1.1).eval = (k77.F x).eval) : k77.Ok Tryz.prog := con_fn [] trivial f77_eq fun x hw _ hy => (hr x hw).trans hy
theorem k77_ok : k77.Ok Tryz.prog := by
  refine f77_ok fun x hw => ?_
  obtain ⟨⟨a0, a1, a2, a3, a4, a5, a6, a7, a8, _⟩, ⟨a9, _⟩, ⟨a10, _⟩, _⟩ := x
  have l2 : List.length a2 ≤ BIG := hw.1.1.1
  have l3 : List.length a3 ≤ BIG := hw.1.2.1.1
  have l4 : List.length a4 ≤ BIG := hw.1.2.2.1.1
  have l5 : List.length a5 ≤ BIG := hw.1.2.2.2.1.1
  have l6 : List.length a6 ≤ BIG := hw.1.2.2.2.2.1.1
  have l7 : List.length a7 ≤ BIG := hw.1.2.2.2.2.2.1.1
  have l8 : List.length a8 ≤ BIG := hw.1.2.2.2.2.2.2.1.1
  show (f77_tree a0 a1 a2 a3 a4 a5 a6 a7 a8 a9 a10).eval = some ((((endsV a4 a9 a10), ()), ()), ((), (), (), ()))
  unfold f77_tree endsV
  have h : iter1 f77_L0 FUEL ((a9, a10, (0 : Int), (0 : Int), ()), ((a0, a1, a2, a3, a4, a5, a6, a7, a8, ()), ())) = some (((List.foldl (fun (n : Int) (o : OpenD) => if endV a10 a9 o = true then IntKind.i64.wrap (n + 1) else n) (0 : Int) a4), ()), ()) := foldl_loop (f := f77_L0) (fun _ _ => True) (fun (n : Int) (o : OpenD) => if endV a10 a9 o = true then IntKind.i64.wrap (n + 1) else n) a4 (fun d i => ((a9, a10, d, ((i : Nat) : Int), ()), ((a0, a1, a2, a3, a4, a5, a6, a7, a8, ()), ()))) (fun d => ((d, ()), ()))
      (fun i hi d _ => by
        have h1 := wrap_succ (i := i) (by omega)
        by_cases q : a4[i].2.1 = a10 <;> by_cases q2 : a4[i].2.2.1 = a9 <;> simp [endV, f77_L0, Out.eval, hi, h1, cond_eq_ite, q, q2])
      (fun d _ => by simp [f77_L0, Out.eval]) (fun _ _ _ _ => trivial) l4 (0 : Int) trivial
  exact eval_get_some h
abbrev f72_S0 := (Int × Unit) × (UnixD × Unit)
def f72_L0 : f72_S0 → Out (Round f72_S0 ((Unit) × (UnixD × Unit)) ((Bool × Unit) × (Unit)))
| ((p0, _), (p1, p2, p3, p4, p5, p6, p7, p8, p9, _), _) =>
 .ite (decide (p0 < ((List.length p5 : Nat) : Int)))
 (.ite (decide (0 ≤ p0))
 (.get (nth p5 (Int.toNat p0)) fun y1 =>
 .ite ((!(openOkV p4 p6 p7 y1.1 y1.2.1 y1.2.2.1 y1.2.2.2.1 y1.2.2.2.2.1)) == false)
 (.ite ((decide (p0 > (0 : Int))) == true)
 (.ite (decide (0 ≤ (IntKind.i64.wrap (p0 - (1 : Int)))))
 (.get (nth p5 (Int.toNat (IntKind.i64.wrap (p0 - (1 : Int))))) fun y2 =>
 .ite (decide (0 ≤ p0))
 (.get (nth p5 (Int.toNat p0)) fun y3 =>
 .ite (decide (y2.1 ≥ y3.1))
 (.ret (.ret ((false, ()), ())))
 (.ret (.again (((IntKind.i64.wrap (p0 + (1 : Int))), ()), ((p1, p2, p3, p4, p5, p6, p7, p8, p9, ()), ())))))
 .fail)
 .fail)
 (.ret (.again (((IntKind.i64.wrap (p0 + (1 : Int))), ()), ((p1, p2, p3, p4, p5, p6, p7, p8, p9, ()), ())))))
 (.ret (.ret ((false, ()), ()))))
 .fail)
 (.ret (.out ((), ((p1, p2, p3, p4, p5, p6, p7, p8, p9, ()), ()))))
abbrev f72_S2 := (Int × Unit) × (UnixD × Unit)
def f72_L2 : f72_S2 → Out (Round f72_S2 ((Unit) × (UnixD × Unit)) ((Bool × Unit) × (Unit)))
| ((p0, _), (p1, p2, p3, p4, p5, p6, p7, p8, p9, _), _) =>
 .ite (decide (p0 < ((List.length p6 : Nat) : Int)))
 (.ite (decide (0 ≤ p0))
 (.get (nth p6 (Int.toNat p0)) fun y1 =>
 .ite ((!(inV y1.1 (0 : Int) (2 : Int))) == false)
 (.ite ((decide (((List.length y1.2.1 : Nat) : Int) > (4 : Int))) == false)
 (.ite ((!(wordsOkV y1.2.1)) == false)
 (.ite ((decide (p0 > (0 : Int))) == true)
 (.ite (decide (0 ≤ (IntKind.i64.wrap (p0 - (1 : Int)))))
 (.get (nth p6 (Int.toNat (IntKind.i64.wrap (p0 - (1 : Int))))) fun y2 =>
 .ite ((decide (y2.1 ≥ y1.1)) == false)
 (.ite (((IntKind.i64.wrap ((endsV p5 y1.1 (3 : Int)) + (endsV p5 y1.1 (4 : Int)))) == (0 : Int)))
 (.ret (.ret ((false, ()), ())))
 (.ret (.again (((IntKind.i64.wrap (p0 + (1 : Int))), ()), ((p1, p2, p3, p4, p5, p6, p7, p8, p9, ()), ())))))
 (.ret (.ret ((false, ()), ()))))
 .fail)
 (.ite (((IntKind.i64.wrap ((endsV p5 y1.1 (3 : Int)) + (endsV p5 y1.1 (4 : Int)))) == (0 : Int)))
 (.ret (.ret ((false, ()), ())))
 (.ret (.again (((IntKind.i64.wrap (p0 + (1 : Int))), ()), ((p1, p2, p3, p4, p5, p6, p7, p8, p9, ()), ()))))))
 (.ret (.ret ((false, ()), ()))))
 (.ret (.ret ((false, ()), ()))))
 (.ret (.ret ((false, ()), ()))))
 .fail)
 (.ret (.out ((), ((p1, p2, p3, p4, p5, p6, p7, p8, p9, ()), ()))))
abbrev f72_S4 := (Int × Unit) × (UnixD × Unit)
def f72_L4 : f72_S4 → Out (Round f72_S4 ((Unit) × (Unit)) ((Bool × Unit) × (Unit)))
| ((p0, _), (p1, p2, p3, p4, p5, p6, p7, p8, p9, _), _) =>
 .ite (decide (p0 < ((List.length p7 : Nat) : Int)))
 (.ite (decide (0 ≤ p0))
 (.get (nth p7 (Int.toNat p0)) fun y1 =>
 .ite ((!(inV y1.1 (0 : Int) (5 : Int))) == false)
 (.ite ((decide (((List.length y1.2.1 : Nat) : Int) > (8 : Int))) == false)
 (.ite ((!(wordsOkV y1.2.1)) == false)
 (.ite ((decide (p0 > (0 : Int))) == true)
 (.ite (decide (0 ≤ (IntKind.i64.wrap (p0 - (1 : Int)))))
 (.get (nth p7 (Int.toNat (IntKind.i64.wrap (p0 - (1 : Int))))) fun y2 =>
 .ite (decide (y2.1 ≥ y1.1))
 (.ret (.ret ((false, ()), ())))
 (.ret (.again (((IntKind.i64.wrap (p0 + (1 : Int))), ()), ((p1, p2, p3, p4, p5, p6, p7, p8, p9, ()), ())))))
 .fail)
 (.ret (.again (((IntKind.i64.wrap (p0 + (1 : Int))), ()), ((p1, p2, p3, p4, p5, p6, p7, p8, p9, ()), ())))))
 (.ret (.ret ((false, ()), ()))))
 (.ret (.ret ((false, ()), ()))))
 (.ret (.ret ((false, ()), ()))))
 .fail)
 (.ret (.out ((), ())))
def f72_tree (a0 : Int) (a1 : Int) (a2 : List (List InsD)) (a3 : List ProcD) (a4 : List OpenD) (a5 : List CpuD) (a6 : List CpuD) (a7 : List Int) (a8 : List Int) : Out (((Bool × Unit) × Unit) × (Unit × Unit)) :=
 .ite ((decide (((List.length a4 : Nat) : Int) > (8 : Int))) == false)
 (.ite ((decide (((List.length a5 : Nat) : Int) > (3 : Int))) == false)
 (.ite (decide (((List.length a6 : Nat) : Int) > (6 : Int)))
 (.ret (((false, ()), ()), ((), ())))
 (.get (iter f72_L0 FUEL (((0 : Int), ()), ((a0, a1, a2, a3, a4, a5, a6, a7, a8, ()), ()))) fun y1 => .alt y1 (fun y2 =>
 .get (iter f72_L2 FUEL (((0 : Int), ()), ((y2.2.1.1, y2.2.1.2.1, y2.2.1.2.2.1, y2.2.1.2.2.2.1, y2.2.1.2.2.2.2.1, y2.2.1.2.2.2.2.2.1, y2.2.1.2.2.2.2.2.2.1, y2.2.1.2.2.2.2.2.2.2.1, y2.2.1.2.2.2.2.2.2.2.2.1, ()), ()))) fun y4 => .alt y4 (fun y5 =>
 .get (iter f72_L4 FUEL (((0 : Int), ()), ((y5.2.1.1, y5.2.1.2.1, y5.2.1.2.2.1, y5.2.1.2.2.2.1, y5.2.1.2.2.2.2.1, y5.2.1.2.2.2.2.2.1, y5.2.1.2.2.2.2.2.2.1, y5.2.1.2.2.2.2.2.2.2.1, y5.2.1.2.2.2.2.2.2.2.2.1, ()), ()))) fun y7 => .alt y7 (fun y8 =>
 .ret (((true, ()), ()), ((), ()))) (fun y9 =>
 .ret (((y9.1.1, ()), ()), ((), ())))) (fun y6 =>
 .ret (((y6.1.1, ()), ()), ((), ())))) (fun y3 =>
 .ret (((y3.1.1, ()), ()), ((), ())))))
 (.ret (((false, ()), ()), ((), ()))))
 (.ret (((false, ()), ()), ((), ())))
def f72_A : Nat → Option LoopAnn := fun n => annOf [(0, ⟨⟨[.dead, .vptr 64000000 0, .dead, .i .i64] ++ dd 155, f77_s1⟩, ⟨[.dead, .vptr 64000000 0] ++ dd 157, f77_s1⟩, some ⟨[.dead, .dead, .b] ++ dd 156, []⟩, false⟩), (2, ⟨⟨[.dead, .vptr 64000000 0, .dead, .dead, .i .i64] ++ dd 154, f77_s1⟩, ⟨[.dead, .vptr 64000000 0] ++ dd 157, f77_s1⟩, some ⟨[.dead, .dead, .b] ++ dd 156, []⟩, false⟩), (4, ⟨⟨[.dead, .vptr 64000000 0] ++ dd 4 ++ [.i .i64] ++ dd 152, f77_s1⟩, ⟨dd 159, []⟩, some ⟨[.dead, .dead, .b] ++ dd 156, []⟩, false⟩)] n
def k72 : Con := { f := 72, lend := true, its := [⟨false, true, [.i .i64, .i .i64, .ro (.sl tyN), .ro tyP, .ro tyO, .ro tyF, .ro tyF, .ro (.int .i64), .ro (.int .i64)]⟩], lay := [none], rs := [⟨false, false, [.b]⟩], F := fun x => .ret ((((thingsV x.1.2.2.2.1 x.1.2.2.2.2.1 x.1.2.2.2.2.2.1 x.1.2.2.2.2.2.2.1), ()), ()), ((), ())) }
theorem f72_eq (x : itemsD k72.its) : bo [k165, k65, k69, k77] f72_A Tryz.f72 k72 [.tmp 2] x = f72_tree x.1.1 x.1.2.1 x.1.2.2.1 x.1.2.2.2.1 x.1.2.2.2.2.1 x.1.2.2.2.2.2.1 x.1.2.2.2.2.2.2.1 x.1.2.2.2.2.2.2.2.1 x.1.2.2.2.2.2.2.2.2.1 := by kernel_rfl
theorem f72_ok (hr : ∀ x : UnixD × Unit, itemsWF k72.its x → (f72_tree x.1.1 x.1.2.1 x.1.2.2.1 x.1.2.2.2.1 x.1.2.2.2.2.1 x.1.2.2.2.2.2.1 x.1.2.2.2.2.2.2.1 x.1.2.2.2.2.2.2.2.1 x.1.2.2.2.2.2.2.2.2.1).eval = (k72.F x).eval) : k72.Ok Tryz.prog := con_fn [k165, k65, k69, k77] ⟨k165_ok, k65_ok, k69_ok, k77_ok, trivial⟩ f72_eq fun x hw _ hy => (hr x hw).trans hy
theorem k72_ok : k72.Ok Tryz.prog := by
  refine f72_ok fun x hw => ?_
  obtain ⟨⟨a0, a1, a2, a3, a4, a5, a6, a7, a8, _⟩, _⟩ := x
  have l2 : List.length a2 ≤ BIG := hw.1.1.1
  have l3 : List.length a3 ≤ BIG := hw.1.2.1.1
  have l4 : List.length a4 ≤ BIG := hw.1.2.2.1.1
  have l5 : List.length a5 ≤ BIG := hw.1.2.2.2.1.1
  have l6 : List.length a6 ≤ BIG := hw.1.2.2.2.2.1.1
  have l7 : List.length a7 ≤ BIG := hw.1.2.2.2.2.2.1.1
  have l8 : List.length a8 ≤ BIG := hw.1.2.2.2.2.2.2.1.1
  show (f72_tree a0 a1 a2 a3 a4 a5 a6 a7 a8).eval = some ((((thingsV a3 a4 a5 a6), ()), ()), ((), ()))
  unfold f72_tree
  rw [gt8, gt3, gt6]
  by_cases c1 : List.length a4 ≤ 8
  case neg => rw [eval_ite_f (by first | (simp [c1]; done) | (rw [decide_eq_true (by omega)]; done) | (rw [decide_eq_false (by omega)]; done) | (rw [decide_eq_true (by omega)]; rfl) | (rw [decide_eq_false (by omega)]; rfl) | (rw [c1]; rfl) | (rw [Bool.eq_false_iff.2 c1]; rfl))]; simp [Out.eval, thingsV, c1]
  rw [eval_ite_t (by first | (simp [c1]; done) | (rw [decide_eq_true (by omega)]; done) | (rw [decide_eq_false (by omega)]; done) | (rw [decide_eq_true (by omega)]; rfl) | (rw [decide_eq_false (by omega)]; rfl) | (rw [c1]; rfl) | (rw [Bool.eq_false_iff.2 c1]; rfl))]
  by_cases c2 : List.length a5 ≤ 3
  case neg => rw [eval_ite_f (by first | (simp [c2]; done) | (rw [decide_eq_true (by omega)]; done) | (rw [decide_eq_false (by omega)]; done) | (rw [decide_eq_true (by omega)]; rfl) | (rw [decide_eq_false (by omega)]; rfl) | (rw [c2]; rfl) | (rw [Bool.eq_false_iff.2 c2]; rfl))]; simp [Out.eval, thingsV, c2]
  rw [eval_ite_t (by first | (simp [c2]; done) | (rw [decide_eq_true (by omega)]; done) | (rw [decide_eq_false (by omega)]; done) | (rw [decide_eq_true (by omega)]; rfl) | (rw [decide_eq_false (by omega)]; rfl) | (rw [c2]; rfl) | (rw [Bool.eq_false_iff.2 c2]; rfl))]
  by_cases c3 : List.length a6 ≤ 6
  case neg => rw [eval_ite_t (by first | (simp [c3]; done) | (rw [decide_eq_true (by omega)]; done) | (rw [decide_eq_false (by omega)]; done) | (rw [decide_eq_true (by omega)]; rfl) | (rw [decide_eq_false (by omega)]; rfl) | (rw [c3]; rfl) | (rw [Bool.eq_false_iff.2 c3]; rfl))]; simp [Out.eval, thingsV, c3]
  rw [eval_ite_f (by first | (simp [c3]; done) | (rw [decide_eq_true (by omega)]; done) | (rw [decide_eq_false (by omega)]; done) | (rw [decide_eq_true (by omega)]; rfl) | (rw [decide_eq_false (by omega)]; rfl) | (rw [c3]; rfl) | (rw [Bool.eq_false_iff.2 c3]; rfl))]
  have h1 : iter f72_L0 FUEL (((0 : Int), ()), ((a0, a1, a2, a3, a4, a5, a6, a7, a8, ()), ())) = some (if rowsV openKey (open1V a3 a5 a6) a4 = true then .inl ((), ((a0, a1, a2, a3, a4, a5, a6, a7, a8, ()), ())) else .inr ((false, ()), ())) := allI_loop (f := f72_L0) (List.length a4) (rowV openKey (open1V a3 a5 a6) a4) (fun i => ((((i : Nat) : Int), ()), ((a0, a1, a2, a3, a4, a5, a6, a7, a8, ()), ()))) (y := ((), ((a0, a1, a2, a3, a4, a5, a6, a7, a8, ()), ()))) (z := ((false, ()), ()))
      (fun i hi => by
        have w1 := wrap_succ (i := i) (by omega)
        cases i with
        | zero =>
          rw [rowV_zero hi]
          have w3 : decide (((0 : Nat) : Int) > 0) = false := rfl
          try unfold open1V
          try unfold openKey
          simp only [f72_L0, Out.eval, lt_t hi, ge0, nth_get hi, Option.bind_some, cond_true, cond_false, w1, w3]
          cases p0 : openOkV a3 a5 a6 a4[0].1 a4[0].2.1 a4[0].2.2.1 a4[0].2.2.2.1 a4[0].2.2.2.2.1 <;> rfl
        | succ i =>
          rw [rowV_succ hi]
          have w2 := wrap_pred i (by omega)
          have w3 : decide (((i + 1 : Nat) : Int) > 0) = true := decide_eq_true (by omega)
          try unfold open1V
          try unfold openKey
          simp only [f72_L0, Out.eval, lt_t hi, ge0, nth_get hi, Option.bind_some, cond_true, cond_false, w1, w3, nth_get (show i < List.length a4 by omega), w2, not_ge]
          cases p0 : openOkV a3 a5 a6 a4[i + 1].1 a4[i + 1].2.1 a4[i + 1].2.2.1 a4[i + 1].2.2.2.1 a4[i + 1].2.2.2.2.1 <;> cases p1 : decide (a4[i].1 < a4[i + 1].1) <;> rfl)
      (by simp [f72_L0, Out.eval]) l4
  refine (eval_get_some h1).trans ?_
  by_cases q1 : rowsV openKey (open1V a3 a5 a6) a4 = true
  case neg => rw [if_neg q1]; simp [Out.eval, thingsV, q1]
  rw [if_pos q1]
  refine (eval_alt_l _).trans ?_
  dsimp only
  have h2 : iter f72_L2 FUEL (((0 : Int), ()), ((a0, a1, a2, a3, a4, a5, a6, a7, a8, ()), ())) = some (if rowsV pipeKey (pipe1V a4) a5 = true then .inl ((), ((a0, a1, a2, a3, a4, a5, a6, a7, a8, ()), ())) else .inr ((false, ()), ())) := allI_loop (f := f72_L2) (List.length a5) (rowV pipeKey (pipe1V a4) a5) (fun i => ((((i : Nat) : Int), ()), ((a0, a1, a2, a3, a4, a5, a6, a7, a8, ()), ()))) (y := ((), ((a0, a1, a2, a3, a4, a5, a6, a7, a8, ()), ()))) (z := ((false, ()), ()))
      (fun i hi => by
        have w1 := wrap_succ (i := i) (by omega)
        cases i with
        | zero =>
          rw [rowV_zero hi]
          have w3 : decide (((0 : Nat) : Int) > 0) = false := rfl
          try unfold pipe1V
          try unfold pipeKey
          simp only [f72_L2, Out.eval, lt_t hi, ge0, nth_get hi, Option.bind_some, cond_true, cond_false, w1, w3, gt4, ends_any l4]
          cases p0 : inV a5[0].1 0 2 <;> cases p2 : decide (List.length a5[0].2.1 ≤ 4) <;> cases p3 : wordsOkV a5[0].2.1 <;> cases p4 : List.any a4 (isEndV a5[0].1) <;> rfl
        | succ i =>
          rw [rowV_succ hi]
          have w2 := wrap_pred i (by omega)
          have w3 : decide (((i + 1 : Nat) : Int) > 0) = true := decide_eq_true (by omega)
          try unfold pipe1V
          try unfold pipeKey
          simp only [f72_L2, Out.eval, lt_t hi, ge0, nth_get hi, Option.bind_some, cond_true, cond_false, w1, w3, gt4, ends_any l4, nth_get (show i < List.length a5 by omega), w2, not_ge]
          cases p0 : inV a5[i + 1].1 0 2 <;> cases p1 : decide (a5[i].1 < a5[i + 1].1) <;> cases p2 : decide (List.length a5[i + 1].2.1 ≤ 4) <;> cases p3 : wordsOkV a5[i + 1].2.1 <;> cases p4 : List.any a4 (isEndV a5[i + 1].1) <;> rfl)
      (by simp [f72_L2, Out.eval]) l5
  refine (eval_get_some h2).trans ?_
  by_cases q2 : rowsV pipeKey (pipe1V a4) a5 = true
  case neg => rw [if_neg q2]; simp [Out.eval, thingsV, q2]
  rw [if_pos q2]
  refine (eval_alt_l _).trans ?_
  dsimp only
  have h3 : iter f72_L4 FUEL (((0 : Int), ()), ((a0, a1, a2, a3, a4, a5, a6, a7, a8, ()), ())) = some (if rowsV fileKey file1V a6 = true then .inl ((), ()) else .inr ((false, ()), ())) := allI_loop (f := f72_L4) (List.length a6) (rowV fileKey file1V a6) (fun i => ((((i : Nat) : Int), ()), ((a0, a1, a2, a3, a4, a5, a6, a7, a8, ()), ()))) (y := ((), ())) (z := ((false, ()), ()))
      (fun i hi => by
        have w1 := wrap_succ (i := i) (by omega)
        cases i with
        | zero =>
          rw [rowV_zero hi]
          have w3 : decide (((0 : Nat) : Int) > 0) = false := rfl
          try unfold file1V
          try unfold fileKey
          simp only [f72_L4, Out.eval, lt_t hi, ge0, nth_get hi, Option.bind_some, cond_true, cond_false, w1, w3, gt8]
          cases p0 : inV a6[0].1 0 5 <;> cases p2 : decide (List.length a6[0].2.1 ≤ 8) <;> cases p3 : wordsOkV a6[0].2.1 <;> rfl
        | succ i =>
          rw [rowV_succ hi]
          have w2 := wrap_pred i (by omega)
          have w3 : decide (((i + 1 : Nat) : Int) > 0) = true := decide_eq_true (by omega)
          try unfold file1V
          try unfold fileKey
          simp only [f72_L4, Out.eval, lt_t hi, ge0, nth_get hi, Option.bind_some, cond_true, cond_false, w1, w3, gt8, nth_get (show i < List.length a6 by omega), w2, not_ge]
          cases p0 : inV a6[i + 1].1 0 5 <;> cases p1 : decide (a6[i].1 < a6[i + 1].1) <;> cases p2 : decide (List.length a6[i + 1].2.1 ≤ 8) <;> cases p3 : wordsOkV a6[i + 1].2.1 <;> rfl)
      (by simp [f72_L4, Out.eval]) l6
  refine (eval_get_some h3).trans ?_
  by_cases q3 : rowsV fileKey file1V a6 = true
  case neg => rw [if_neg q3]; simp [Out.eval, thingsV, q3]
  rw [if_pos q3]
  simp [Out.eval, thingsV, c1, c2, c3, q1, q2, q3]
end Go.Proofs.YtnnpnkegpkladaaGreat.Dm
