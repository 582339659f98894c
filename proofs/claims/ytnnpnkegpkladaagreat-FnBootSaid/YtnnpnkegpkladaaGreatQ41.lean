/- Functions of the program, and what they compute. -/
import Derived.Test.YtnnpnkegpkladaaGreatQ4
namespace Go.Proofs.YtnnpnkegpkladaaGreat.Dm
open Go Go.ChangeShapes Go.WideShapes Go.ChangeAt Go.RowKit
theorem proc_end {β : Type} (st code par : Int) (n : Nat) (r : Bool → β) :
    (Out.ite (st == (6 : Int)) (Out.ite (((((n : Nat) : Int) == (0 : Int))) == true) (.ret (r (par != (0 : Int)))) (.ret (r false))) (Out.ite ((decide (((n : Nat) : Int) > (0 : Int))) == true) (.ret (r (code == (0 : Int)))) (.ret (r false)))).eval =
      some (r (if st = 6 then decide (n = 0) && !(par == 0) else decide (0 < n) && code == 0)) := by
  simp only [Out.eval, cond_eq_ite]
  rcases Nat.eq_zero_or_pos n with h2 | h2
  · subst h2
    by_cases h : st = 6 <;> simp [h, bne]
  · have h3 : ¬ n = 0 := by omega
    by_cases h : st = 6 <;> simp [h, h2, h3]
theorem proc_tail {β : Type} (tick st unt v code par : Int) (u : Bool) (n : Nat) (r : Bool → β) (e : Out β)
    (he : e.eval = some (r (if st = 6 then decide (n = 0) && !(par == 0) else decide (0 < n) && code == 0))) :
    (Out.ite (st == (2 : Int)) (.ite (decide (unt ≤ tick)) (.ret (r false)) e)
      (.ite (st == (4 : Int)) (.ite ((decide (v < (0 : Int))) == false) (.ite (!u) (.ret (r false)) e) (.ret (r false)))
        (.ite (st == (5 : Int)) (.ite ((decide (v < (0 : Int))) == false) (.ite (!u) (.ret (r false)) e) (.ret (r false)))
          (.ite (unt != (0 : Int)) (.ret (r false)) e)))).eval =
      some (r ((if st = 2 then decide (tick < unt) else if st = 4 ∨ st = 5 then u && decide (0 ≤ v) else unt == 0) && (if st = 6 then decide (n = 0) && !(par == 0) else decide (0 < n) && code == 0))) := by
  generalize (if st = 6 then decide (n = 0) && !(par == 0) else decide (0 < n) && code == 0) = b at *
  simp only [Out.eval, cond_eq_ite, he]
  by_cases h2 : st = 2
  · by_cases h : unt ≤ tick
    · have : ¬ tick < unt := by omega
      simp [h2, h, this]
    · have : tick < unt := by omega
      simp [h2, h, this]
  · by_cases h4 : st = 4
    · by_cases h : v < 0
      · have : ¬ 0 ≤ v := by omega
        simp [h4, h, this]
      · have : 0 ≤ v := by omega
        cases u <;> simp [h4, h, this]
    · by_cases h5 : st = 5
      · by_cases h : v < 0
        · have : ¬ 0 ≤ v := by omega
          simp [h5, h, this]
        · have : 0 ≤ v := by omega
          cases u <;> simp [h5, h, this]
      · by_cases h0 : unt = 0
        · simp [h2, h4, h5, h0]
        · have h1 : (unt == (0 : Int)) = false := by simpa using h0
          simp [h2, h4, h5, h0, h1]
abbrev f71_S0 := (Int × Unit) × (UnixD × XM × Unit)
def f71_L0 : f71_S0 → Out (Round f71_S0 ((Unit) × (UnixD × XM × Unit)) ((Bool × Unit) × (Unit)))
| ((p0, _), (p1, p2, p3, p4, p5, p6, p7, p8, p9, _), (p10, p11, p12, p13, p14, p15, p16, p17, p18, p19, _), _) =>
 .ite (decide (p0 < ((List.length p17 : Nat) : Int)))
 (.ite (decide (0 ≤ p0))
 (.get (nth p17 (Int.toNat p0)) fun y1 =>
 .ite (((y1 != (-1 : Int))) == true)
 (.ite (decide (0 ≤ p0))
 (.get (nth p17 (Int.toNat p0)) fun y2 =>
 .ite ((decide ((openAtV p5 y2) < (0 : Int))) == false)
 (.ite ((p12 == (6 : Int)))
 (.ret (.ret ((false, ()), ())))
 (.ret (.again (((IntKind.i64.wrap (p0 + (1 : Int))), ()), ((p1, p2, p3, p4, p5, p6, p7, p8, p9, ()), (p10, p11, p12, p13, p14, p15, p16, p17, p18, p19, ()), ())))))
 (.ret (.ret ((false, ()), ()))))
 .fail)
 (.ret (.again (((IntKind.i64.wrap (p0 + (1 : Int))), ()), ((p1, p2, p3, p4, p5, p6, p7, p8, p9, ()), (p10, p11, p12, p13, p14, p15, p16, p17, p18, p19, ()), ())))))
 .fail)
 (.ret (.out ((), ((p1, p2, p3, p4, p5, p6, p7, p8, p9, ()), (p10, p11, p12, p13, p14, p15, p16, p17, p18, p19, ()), ()))))
def f71_tree (a0 : Int) (a1 : Int) (a2 : List (List InsD)) (a3 : List ProcD) (a4 : List OpenD) (a5 : List CpuD) (a6 : List CpuD) (a7 : List Int) (a8 : List Int) (a9 : Int) (a10 : Int) (a11 : Int) (a12 : Int) (a13 : Int) (a14 : List Int) (a15 : List Int) (a16 : List Int) (a17 : Int) (a18 : Int) : Out (((Bool × Unit) × Unit) × XI) :=
 .ite ((!(inV a11 (1 : Int) (6 : Int))) == false)
 (.ite ((decide (a12 < (0 : Int))) == false)
 (.ite ((decide (a12 ≥ ((List.length a2 : Nat) : Int))) == false)
 (.ite ((!(cpuOkV a13 a14)) == false)
 (.ite ((decide (((List.length a15 : Nat) : Int) > (12 : Int))) == false)
 (.ite ((4 : Int) == 0)
 .fail
 (.ite ((((Int.tmod ((List.length a15 : Nat) : Int) (4 : Int)) != (0 : Int))) == false)
 (.ite ((!(wordsOkV a15)) == false)
 (.ite (((((List.length a16 : Nat) : Int) != (4 : Int))) == false)
 (.ite (!(wordV a18))
 (.ret (((false, ()), ()), ((), (), ())))
 (.get (iter f71_L0 FUEL (((0 : Int), ()), ((a0, a1, a2, a3, a4, a5, a6, a7, a8, ()), (a9, a10, a11, a12, a13, a14, a15, a16, a17, a18, ()), ()))) fun y1 => .alt y1 (fun y2 =>
 .ite ((y2.2.2.1.2.1 != (0 : Int)))
 (.ite ((decide ((procAtV y2.2.1.2.2.2.1 y2.2.2.1.2.1) < (0 : Int))) == false)
 (.ite (((y2.2.2.1.2.1 == y2.2.2.1.1)) == false)
 (.ite (decide (0 ≤ (procAtV y2.2.1.2.2.2.1 y2.2.2.1.2.1)))
 (.get (nth y2.2.1.2.2.2.1 (Int.toNat (procAtV y2.2.1.2.2.2.1 y2.2.2.1.2.1))) fun y4 =>
 .ite ((y4.2.2.1 == (6 : Int)))
 (.ret (((false, ()), ()), ((), (), ())))
 (.ite ((y2.2.2.1.2.2.1 == (2 : Int)))
 (.ite (decide (y2.2.2.1.2.2.2.2.2.2.2.2.1 ≤ y2.2.1.2.1))
 (.ret (((false, ()), ()), ((), (), ())))
 (.ite ((y2.2.2.1.2.2.1 == (6 : Int)))
 (.ite (((((List.length y2.2.2.1.2.2.2.2.2.2.1 : Nat) : Int) == (0 : Int))) == true)
 (.ret (((((y2.2.2.1.2.1 != (0 : Int))), ()), ()), ((), (), ())))
 (.ret (((false, ()), ()), ((), (), ()))))
 (.ite ((decide (((List.length y2.2.2.1.2.2.2.2.2.2.1 : Nat) : Int) > (0 : Int))) == true)
 (.ret (((((y2.2.2.1.2.2.2.2.2.2.2.2.2.1 == (0 : Int))), ()), ()), ((), (), ())))
 (.ret (((false, ()), ()), ((), (), ()))))))
 (.ite ((y2.2.2.1.2.2.1 == (4 : Int)))
 (.ite ((decide ((openAtV y2.2.1.2.2.2.2.1 y2.2.2.1.2.2.2.2.2.2.2.2.1) < (0 : Int))) == false)
 (.ite (!(hasV y2.2.2.1.2.2.2.2.2.2.2.1 y2.2.2.1.2.2.2.2.2.2.2.2.1))
 (.ret (((false, ()), ()), ((), (), ())))
 (.ite ((y2.2.2.1.2.2.1 == (6 : Int)))
 (.ite (((((List.length y2.2.2.1.2.2.2.2.2.2.1 : Nat) : Int) == (0 : Int))) == true)
 (.ret (((((y2.2.2.1.2.1 != (0 : Int))), ()), ()), ((), (), ())))
 (.ret (((false, ()), ()), ((), (), ()))))
 (.ite ((decide (((List.length y2.2.2.1.2.2.2.2.2.2.1 : Nat) : Int) > (0 : Int))) == true)
 (.ret (((((y2.2.2.1.2.2.2.2.2.2.2.2.2.1 == (0 : Int))), ()), ()), ((), (), ())))
 (.ret (((false, ()), ()), ((), (), ()))))))
 (.ret (((false, ()), ()), ((), (), ()))))
 (.ite ((y2.2.2.1.2.2.1 == (5 : Int)))
 (.ite ((decide ((openAtV y2.2.1.2.2.2.2.1 y2.2.2.1.2.2.2.2.2.2.2.2.1) < (0 : Int))) == false)
 (.ite (!(hasV y2.2.2.1.2.2.2.2.2.2.2.1 y2.2.2.1.2.2.2.2.2.2.2.2.1))
 (.ret (((false, ()), ()), ((), (), ())))
 (.ite ((y2.2.2.1.2.2.1 == (6 : Int)))
 (.ite (((((List.length y2.2.2.1.2.2.2.2.2.2.1 : Nat) : Int) == (0 : Int))) == true)
 (.ret (((((y2.2.2.1.2.1 != (0 : Int))), ()), ()), ((), (), ())))
 (.ret (((false, ()), ()), ((), (), ()))))
 (.ite ((decide (((List.length y2.2.2.1.2.2.2.2.2.2.1 : Nat) : Int) > (0 : Int))) == true)
 (.ret (((((y2.2.2.1.2.2.2.2.2.2.2.2.2.1 == (0 : Int))), ()), ()), ((), (), ())))
 (.ret (((false, ()), ()), ((), (), ()))))))
 (.ret (((false, ()), ()), ((), (), ()))))
 (.ite ((y2.2.2.1.2.2.2.2.2.2.2.2.1 != (0 : Int)))
 (.ret (((false, ()), ()), ((), (), ())))
 (.ite ((y2.2.2.1.2.2.1 == (6 : Int)))
 (.ite (((((List.length y2.2.2.1.2.2.2.2.2.2.1 : Nat) : Int) == (0 : Int))) == true)
 (.ret (((((y2.2.2.1.2.1 != (0 : Int))), ()), ()), ((), (), ())))
 (.ret (((false, ()), ()), ((), (), ()))))
 (.ite ((decide (((List.length y2.2.2.1.2.2.2.2.2.2.1 : Nat) : Int) > (0 : Int))) == true)
 (.ret (((((y2.2.2.1.2.2.2.2.2.2.2.2.2.1 == (0 : Int))), ()), ()), ((), (), ())))
 (.ret (((false, ()), ()), ((), (), ()))))))))))
 .fail)
 (.ret (((false, ()), ()), ((), (), ()))))
 (.ret (((false, ()), ()), ((), (), ()))))
 (.ite ((y2.2.2.1.2.2.1 == (2 : Int)))
 (.ite (decide (y2.2.2.1.2.2.2.2.2.2.2.2.1 ≤ y2.2.1.2.1))
 (.ret (((false, ()), ()), ((), (), ())))
 (.ite ((y2.2.2.1.2.2.1 == (6 : Int)))
 (.ite (((((List.length y2.2.2.1.2.2.2.2.2.2.1 : Nat) : Int) == (0 : Int))) == true)
 (.ret (((((y2.2.2.1.2.1 != (0 : Int))), ()), ()), ((), (), ())))
 (.ret (((false, ()), ()), ((), (), ()))))
 (.ite ((decide (((List.length y2.2.2.1.2.2.2.2.2.2.1 : Nat) : Int) > (0 : Int))) == true)
 (.ret (((((y2.2.2.1.2.2.2.2.2.2.2.2.2.1 == (0 : Int))), ()), ()), ((), (), ())))
 (.ret (((false, ()), ()), ((), (), ()))))))
 (.ite ((y2.2.2.1.2.2.1 == (4 : Int)))
 (.ite ((decide ((openAtV y2.2.1.2.2.2.2.1 y2.2.2.1.2.2.2.2.2.2.2.2.1) < (0 : Int))) == false)
 (.ite (!(hasV y2.2.2.1.2.2.2.2.2.2.2.1 y2.2.2.1.2.2.2.2.2.2.2.2.1))
 (.ret (((false, ()), ()), ((), (), ())))
 (.ite ((y2.2.2.1.2.2.1 == (6 : Int)))
 (.ite (((((List.length y2.2.2.1.2.2.2.2.2.2.1 : Nat) : Int) == (0 : Int))) == true)
 (.ret (((((y2.2.2.1.2.1 != (0 : Int))), ()), ()), ((), (), ())))
 (.ret (((false, ()), ()), ((), (), ()))))
 (.ite ((decide (((List.length y2.2.2.1.2.2.2.2.2.2.1 : Nat) : Int) > (0 : Int))) == true)
 (.ret (((((y2.2.2.1.2.2.2.2.2.2.2.2.2.1 == (0 : Int))), ()), ()), ((), (), ())))
 (.ret (((false, ()), ()), ((), (), ()))))))
 (.ret (((false, ()), ()), ((), (), ()))))
 (.ite ((y2.2.2.1.2.2.1 == (5 : Int)))
 (.ite ((decide ((openAtV y2.2.1.2.2.2.2.1 y2.2.2.1.2.2.2.2.2.2.2.2.1) < (0 : Int))) == false)
 (.ite (!(hasV y2.2.2.1.2.2.2.2.2.2.2.1 y2.2.2.1.2.2.2.2.2.2.2.2.1))
 (.ret (((false, ()), ()), ((), (), ())))
 (.ite ((y2.2.2.1.2.2.1 == (6 : Int)))
 (.ite (((((List.length y2.2.2.1.2.2.2.2.2.2.1 : Nat) : Int) == (0 : Int))) == true)
 (.ret (((((y2.2.2.1.2.1 != (0 : Int))), ()), ()), ((), (), ())))
 (.ret (((false, ()), ()), ((), (), ()))))
 (.ite ((decide (((List.length y2.2.2.1.2.2.2.2.2.2.1 : Nat) : Int) > (0 : Int))) == true)
 (.ret (((((y2.2.2.1.2.2.2.2.2.2.2.2.2.1 == (0 : Int))), ()), ()), ((), (), ())))
 (.ret (((false, ()), ()), ((), (), ()))))))
 (.ret (((false, ()), ()), ((), (), ()))))
 (.ite ((y2.2.2.1.2.2.2.2.2.2.2.2.1 != (0 : Int)))
 (.ret (((false, ()), ()), ((), (), ())))
 (.ite ((y2.2.2.1.2.2.1 == (6 : Int)))
 (.ite (((((List.length y2.2.2.1.2.2.2.2.2.2.1 : Nat) : Int) == (0 : Int))) == true)
 (.ret (((((y2.2.2.1.2.1 != (0 : Int))), ()), ()), ((), (), ())))
 (.ret (((false, ()), ()), ((), (), ()))))
 (.ite ((decide (((List.length y2.2.2.1.2.2.2.2.2.2.1 : Nat) : Int) > (0 : Int))) == true)
 (.ret (((((y2.2.2.1.2.2.2.2.2.2.2.2.2.1 == (0 : Int))), ()), ()), ((), (), ())))
 (.ret (((false, ()), ()), ((), (), ())))))))))) (fun y3 =>
 .ret (((y3.1.1, ()), ()), ((), (), ())))))
 (.ret (((false, ()), ()), ((), (), ()))))
 (.ret (((false, ()), ()), ((), (), ()))))
 (.ret (((false, ()), ()), ((), (), ())))))
 (.ret (((false, ()), ()), ((), (), ()))))
 (.ret (((false, ()), ()), ((), (), ()))))
 (.ret (((false, ()), ()), ((), (), ()))))
 (.ret (((false, ()), ()), ((), (), ()))))
 (.ret (((false, ()), ()), ((), (), ())))
abbrev f71_s0 : List (Nat × VSlot) := [(64000000, .var [.i .i64, .i .i64, .ro (.sl tyN) (some 0), .ro tyP (some 1), .ro tyO (some 2), .ro tyF (some 3), .ro tyF (some 4), .ro (.int .i64) (some 5), .ro (.int .i64) (some 6)]), (64000001, .var [.i .i64, .i .i64, .i .i64, .i .i64, .i .i64, .ro (.int .i64) (some 7), .ro (.int .i64) (some 8), .ro (.int .i64) (some 9), .i .i64, .i .i64])]
def f71_A : Nat → Option LoopAnn := fun n => annOf [(0, ⟨⟨[.dead, .dead, .vptr 64000000 0, .vptr 64000001 0, .dead, .i .i64] ++ dd 157, f71_s0⟩, ⟨[.dead, .dead, .vptr 64000000 0, .vptr 64000001 0] ++ dd 159, f71_s0⟩, some ⟨dd 4 ++ [.b] ++ dd 158, []⟩, false⟩)] n
def procOkS (tick : Int) (progs : List (List InsD)) (ps : List ProcD) (os : List OpenD) (pid par st pg pc : Int) (regs mem fds : List Int) (unt code : Int) : Bool :=
  procOkV tick progs.length ps os pid par st pg pc regs mem fds unt code
def k71 : Con := { f := 71, lend := true, its := [⟨false, true, [.i .i64, .i .i64, .ro (.sl tyN), .ro tyP, .ro tyO, .ro tyF, .ro tyF, .ro (.int .i64), .ro (.int .i64)]⟩, ⟨false, true, [.i .i64, .i .i64, .i .i64, .i .i64, .i .i64, .ro (.int .i64), .ro (.int .i64), .ro (.int .i64), .i .i64, .i .i64]⟩], lay := [none, none], rs := [⟨false, false, [.b]⟩], F := fun x => .ret ((((procOkS x.1.2.1 x.1.2.2.1 x.1.2.2.2.1 x.1.2.2.2.2.1 x.2.1.1 x.2.1.2.1 x.2.1.2.2.1 x.2.1.2.2.2.1 x.2.1.2.2.2.2.1 x.2.1.2.2.2.2.2.1 x.2.1.2.2.2.2.2.2.1 x.2.1.2.2.2.2.2.2.2.1 x.2.1.2.2.2.2.2.2.2.2.1 x.2.1.2.2.2.2.2.2.2.2.2.1), ()), ()), ((), (), ())) }
theorem f71_eq (x : itemsD k71.its) : bo [k65, k163, k69, k162, k74, k164, k75] f71_A Tryz.f71 k71 [.tmp 4] x = f71_tree x.1.1 x.1.2.1 x.1.2.2.1 x.1.2.2.2.1 x.1.2.2.2.2.1 x.1.2.2.2.2.2.1 x.1.2.2.2.2.2.2.1 x.1.2.2.2.2.2.2.2.1 x.1.2.2.2.2.2.2.2.2.1 x.2.1.1 x.2.1.2.1 x.2.1.2.2.1 x.2.1.2.2.2.1 x.2.1.2.2.2.2.1 x.2.1.2.2.2.2.2.1 x.2.1.2.2.2.2.2.2.1 x.2.1.2.2.2.2.2.2.2.1 x.2.1.2.2.2.2.2.2.2.2.1 x.2.1.2.2.2.2.2.2.2.2.2.1 := by kernel_rfl
theorem f71_ok (hr : ∀ x : UnixD × XM × Unit, itemsWF k71.its x → (f71_tree x.1.1 x.1.2.1 x.1.2.2.1 x.1.2.2.2.1 x.1.2.2.2.2.1 x.1.2.2.2.2.2.1 x.1.2.2.2.2.2.2.1 x.1.2.2.2.2.2.2.2.1 x.1.2.2.2.2.2.2.2.2.1 x.2.1.1 x.2.1.2.1 x.2.1.2.2.1 x.2.1.2.2.2.1 x.2.1.2.2.2.2.1 x.2.1.2.2.2.2.2.1 x.2.1.2.2.2.2.2.2.1 x.2.1.2.2.2.2.2.2.2.1 x.2.1.2.2.2.2.2.2.2.2.1 x.2.1.2.2.2.2.2.2.2.2.2.1).eval = (k71.F x).eval) : k71.Ok Tryz.prog := con_fn [k65, k163, k69, k162, k74, k164, k75] ⟨k65_ok, k163_ok, k69_ok, k162_ok, k74_ok, k164_ok, k75_ok, trivial⟩ f71_eq fun x hw _ hy => (hr x hw).trans hy
theorem k71_ok : k71.Ok Tryz.prog := by
  refine f71_ok fun x hw => ?_
  obtain ⟨⟨a0, a1, a2, a3, a4, a5, a6, a7, a8, _⟩, ⟨a9, a10, a11, a12, a13, a14, a15, a16, a17, a18, _⟩, _⟩ := x
  have l2 : List.length a2 ≤ BIG := hw.1.1.1
  have l3 : List.length a3 ≤ BIG := hw.1.2.1.1
  have l4 : List.length a4 ≤ BIG := hw.1.2.2.1.1
  have l5 : List.length a5 ≤ BIG := hw.1.2.2.2.1.1
  have l6 : List.length a6 ≤ BIG := hw.1.2.2.2.2.1.1
  have l7 : List.length a7 ≤ BIG := hw.1.2.2.2.2.2.1.1
  have l8 : List.length a8 ≤ BIG := hw.1.2.2.2.2.2.2.1.1
  have l14 : List.length a14 ≤ BIG := hw.2.1.1.1
  have l15 : List.length a15 ≤ BIG := hw.2.1.2.1.1
  have l16 : List.length a16 ≤ BIG := hw.2.1.2.2.1.1
  show (f71_tree a0 a1 a2 a3 a4 a5 a6 a7 a8 a9 a10 a11 a12 a13 a14 a15 a16 a17 a18).eval = some ((((procOkS a1 a2 a3 a4 a9 a10 a11 a12 a13 a14 a15 a16 a17 a18), ()), ()), ((), (), ()))
  unfold f71_tree
  have h : iter f71_L0 FUEL (((0 : Int), ()), ((a0, a1, a2, a3, a4, a5, a6, a7, a8, ()), (a9, a10, a11, a12, a13, a14, a15, a16, a17, a18, ()), ())) = some (if List.all a16 (fdOkV a4 a11) = true then .inl ((), ((a0, a1, a2, a3, a4, a5, a6, a7, a8, ()), (a9, a10, a11, a12, a13, a14, a15, a16, a17, a18, ()), ())) else .inr ((false, ()), ())) := allB_loop (f := f71_L0) a16 (fdOkV a4 a11) (fun i => ((((i : Nat) : Int), ()), ((a0, a1, a2, a3, a4, a5, a6, a7, a8, ()), (a9, a10, a11, a12, a13, a14, a15, a16, a17, a18, ()), ()))) (y := ((), ((a0, a1, a2, a3, a4, a5, a6, a7, a8, ()), (a9, a10, a11, a12, a13, a14, a15, a16, a17, a18, ()), ()))) (z := ((false, ()), ()))
      (fun i hi => by
        have h1 := wrap_succ (i := i) (by omega)
        by_cases q0 : a16[i] = -1 <;> by_cases q1 : 0 ≤ openAtV a4 a16[i] <;> by_cases q2 : a11 = 6 <;> simp [f71_L0, Out.eval, hi, h1, cond_eq_ite, fdOkV, neg_not, beq_false, q0, q1, q2])
      (by simp [f71_L0, Out.eval]) l16
  by_cases c1 : inV a11 1 6 = true
  case neg => rw [eval_ite_f (by first | (simp [c1]; done) | (rw [decide_eq_true (by omega)]; done) | (rw [decide_eq_false (by omega)]; done) | (rw [decide_eq_true (by omega)]; rfl) | (rw [decide_eq_false (by omega)]; rfl) | (rw [c1]; rfl) | (rw [Bool.eq_false_iff.2 c1]; rfl))]; simp [Out.eval, procOkS, procOkV, c1]
  rw [eval_ite_t (by first | (simp [c1]; done) | (rw [decide_eq_true (by omega)]; done) | (rw [decide_eq_false (by omega)]; done) | (rw [decide_eq_true (by omega)]; rfl) | (rw [decide_eq_false (by omega)]; rfl) | (rw [c1]; rfl) | (rw [Bool.eq_false_iff.2 c1]; rfl))]
  by_cases c2 : 0 ≤ a12
  case neg => rw [eval_ite_f (by first | (simp [c2]; done) | (rw [decide_eq_true (by omega)]; done) | (rw [decide_eq_false (by omega)]; done) | (rw [decide_eq_true (by omega)]; rfl) | (rw [decide_eq_false (by omega)]; rfl) | (rw [c2]; rfl) | (rw [Bool.eq_false_iff.2 c2]; rfl))]; simp [Out.eval, procOkS, procOkV, c2]
  rw [eval_ite_t (by first | (simp [c2]; done) | (rw [decide_eq_true (by omega)]; done) | (rw [decide_eq_false (by omega)]; done) | (rw [decide_eq_true (by omega)]; rfl) | (rw [decide_eq_false (by omega)]; rfl) | (rw [c2]; rfl) | (rw [Bool.eq_false_iff.2 c2]; rfl))]
  by_cases c3 : a12 < ((List.length a2 : Nat) : Int)
  case neg => rw [eval_ite_f (by first | (simp [c3]; done) | (rw [decide_eq_true (by omega)]; done) | (rw [decide_eq_false (by omega)]; done) | (rw [decide_eq_true (by omega)]; rfl) | (rw [decide_eq_false (by omega)]; rfl) | (rw [c3]; rfl) | (rw [Bool.eq_false_iff.2 c3]; rfl))]; simp [Out.eval, procOkS, procOkV, c3]
  rw [eval_ite_t (by first | (simp [c3]; done) | (rw [decide_eq_true (by omega)]; done) | (rw [decide_eq_false (by omega)]; done) | (rw [decide_eq_true (by omega)]; rfl) | (rw [decide_eq_false (by omega)]; rfl) | (rw [c3]; rfl) | (rw [Bool.eq_false_iff.2 c3]; rfl))]
  by_cases c4 : cpuOkV a13 a14 = true
  case neg => rw [eval_ite_f (by first | (simp [c4]; done) | (rw [decide_eq_true (by omega)]; done) | (rw [decide_eq_false (by omega)]; done) | (rw [decide_eq_true (by omega)]; rfl) | (rw [decide_eq_false (by omega)]; rfl) | (rw [c4]; rfl) | (rw [Bool.eq_false_iff.2 c4]; rfl))]; simp [Out.eval, procOkS, procOkV, c4]
  rw [eval_ite_t (by first | (simp [c4]; done) | (rw [decide_eq_true (by omega)]; done) | (rw [decide_eq_false (by omega)]; done) | (rw [decide_eq_true (by omega)]; rfl) | (rw [decide_eq_false (by omega)]; rfl) | (rw [c4]; rfl) | (rw [Bool.eq_false_iff.2 c4]; rfl))]
  by_cases c5 : List.length a15 ≤ 12
  case neg => rw [eval_ite_f (by first | (simp [c5]; done) | (rw [decide_eq_true (by omega)]; done) | (rw [decide_eq_false (by omega)]; done) | (rw [decide_eq_true (by omega)]; rfl) | (rw [decide_eq_false (by omega)]; rfl) | (rw [c5]; rfl) | (rw [Bool.eq_false_iff.2 c5]; rfl))]; simp [Out.eval, procOkS, procOkV, c5]
  rw [eval_ite_t (by first | (simp [c5]; done) | (rw [decide_eq_true (by omega)]; done) | (rw [decide_eq_false (by omega)]; done) | (rw [decide_eq_true (by omega)]; rfl) | (rw [decide_eq_false (by omega)]; rfl) | (rw [c5]; rfl) | (rw [Bool.eq_false_iff.2 c5]; rfl))]
  rw [eval_ite_f (by decide), tmod4, ne4]
  by_cases c6 : List.length a15 % 4 = 0
  case neg => rw [eval_ite_f (by first | (simp [c6]; done) | (rw [decide_eq_true (by omega)]; done) | (rw [decide_eq_false (by omega)]; done) | (rw [decide_eq_true (by omega)]; rfl) | (rw [decide_eq_false (by omega)]; rfl) | (rw [c6]; rfl) | (rw [Bool.eq_false_iff.2 c6]; rfl))]; simp [Out.eval, procOkS, procOkV, c6]
  rw [eval_ite_t (by first | (simp [c6]; done) | (rw [decide_eq_true (by omega)]; done) | (rw [decide_eq_false (by omega)]; done) | (rw [decide_eq_true (by omega)]; rfl) | (rw [decide_eq_false (by omega)]; rfl) | (rw [c6]; rfl) | (rw [Bool.eq_false_iff.2 c6]; rfl))]
  by_cases c7 : wordsOkV a15 = true
  case neg => rw [eval_ite_f (by first | (simp [c7]; done) | (rw [decide_eq_true (by omega)]; done) | (rw [decide_eq_false (by omega)]; done) | (rw [decide_eq_true (by omega)]; rfl) | (rw [decide_eq_false (by omega)]; rfl) | (rw [c7]; rfl) | (rw [Bool.eq_false_iff.2 c7]; rfl))]; simp [Out.eval, procOkS, procOkV, c7]
  rw [eval_ite_t (by first | (simp [c7]; done) | (rw [decide_eq_true (by omega)]; done) | (rw [decide_eq_false (by omega)]; done) | (rw [decide_eq_true (by omega)]; rfl) | (rw [decide_eq_false (by omega)]; rfl) | (rw [c7]; rfl) | (rw [Bool.eq_false_iff.2 c7]; rfl))]
  by_cases c8 : List.length a16 = 4
  case neg => rw [eval_ite_f (by first | (simp [c8]; done) | (rw [decide_eq_true (by omega)]; done) | (rw [decide_eq_false (by omega)]; done) | (rw [decide_eq_true (by omega)]; rfl) | (rw [decide_eq_false (by omega)]; rfl) | (rw [c8]; rfl) | (rw [Bool.eq_false_iff.2 c8]; rfl))]; simp [Out.eval, procOkS, procOkV, c8]
  rw [eval_ite_t (by first | (simp [c8]; done) | (rw [decide_eq_true (by omega)]; done) | (rw [decide_eq_false (by omega)]; done) | (rw [decide_eq_true (by omega)]; rfl) | (rw [decide_eq_false (by omega)]; rfl) | (rw [c8]; rfl) | (rw [Bool.eq_false_iff.2 c8]; rfl))]
  by_cases c9 : wordV a18 = true
  case neg => rw [eval_ite_t (by first | (simp [c9]; done) | (rw [decide_eq_true (by omega)]; done) | (rw [decide_eq_false (by omega)]; done) | (rw [decide_eq_true (by omega)]; rfl) | (rw [decide_eq_false (by omega)]; rfl) | (rw [c9]; rfl) | (rw [Bool.eq_false_iff.2 c9]; rfl))]; simp [Out.eval, procOkS, procOkV, c9]
  rw [eval_ite_f (by first | (simp [c9]; done) | (rw [decide_eq_true (by omega)]; done) | (rw [decide_eq_false (by omega)]; done) | (rw [decide_eq_true (by omega)]; rfl) | (rw [decide_eq_false (by omega)]; rfl) | (rw [c9]; rfl) | (rw [Bool.eq_false_iff.2 c9]; rfl))]
  refine (eval_get_some h).trans ?_
  by_cases q : List.all a16 (fdOkV a4 a11) = true
  case neg => rw [if_neg q]; simp [Out.eval, procOkS, procOkV, q]
  have e : procOkS a1 a2 a3 a4 a9 a10 a11 a12 a13 a14 a15 a16 a17 a18 = (parentOkV a3 a9 a10 && (untilOkV a1 a4 a11 a16 a17 && endOkV a10 a11 a15 a18)) := by
    simp only [procOkS, procOkV, c1, c2, c3, c4, c5, c6, c7, c8, c9, q, decide_true, Bool.and_true, Bool.true_and, Bool.and_assoc]
  rw [if_pos q, e]
  refine (eval_alt_l _).trans ?_
  dsimp only
  have en := proc_end a11 a18 a10 (List.length a15) (fun b => (((b, ()), ()), ((), (), ())))
  have tl := proc_tail a1 a11 a17 (openAtV a4 a17) a18 a10 (hasV a16 a17) (List.length a15) (fun b => (((b, ()), ()), ((), (), ()))) _ en
  unfold untilOkV endOkV
  by_cases p0 : a10 = 0
  · have e2 : parentOkV a3 a9 a10 = true := by simp [parentOkV, p0]
    rw [e2, Bool.true_and, eval_ite_f (by simp [p0])]
    exact tl
  · rw [eval_ite_t (by simp [p0])]
    cases hx : idxBy procKey a3 a10 with
    | none =>
      have e2 : parentOkV a3 a9 a10 = false := by simp [parentOkV, p0, hx]
      have e3 : procAtV a3 a10 = -1 := placeBy_none hx
      rw [e2, e3]; rfl
    | some i =>
      have hi := idxBy_lt hx
      have e3 : procAtV a3 a10 = ((i : Nat) : Int) := placeBy_some hx
      rw [e3, eval_ite_t (by rw [decide_eq_false (by omega)]; rfl), Int.toNat_natCast]
      by_cases p1 : a10 = a9
      · have p2 : (a10 == a9) = true := by simpa using p1
        have p3 : (a10 == (0 : Int)) = false := by simpa using p0
        have e2 : parentOkV a3 a9 a10 = false := by unfold parentOkV; rw [p3, p2]; simp
        rw [e2, eval_ite_f (by rw [p2]; rfl)]; rfl
      · rw [eval_ite_t (by simp [p1]), eval_ite_t (ge0 i)]
        refine (eval_get_some (x := a3[i]) (by simp [nth, hi])).trans ?_
        by_cases p2 : a3[i].2.2.1 = 6
        · have e2 : parentOkV a3 a9 a10 = false := by simp [parentOkV, p0, hx, hi, p2]
          rw [e2, eval_ite_t (by simp [p2])]; rfl
        · have e2 : parentOkV a3 a9 a10 = true := by simp [parentOkV, p0, p1, hx, hi, p2]
          rw [e2, Bool.true_and, eval_ite_f (by simp [p2])]
          exact tl
end Go.Proofs.YtnnpnkegpkladaaGreat.Dm
