/- Functions of the program, and what they compute. -/
import Derived.Test.YtnnpnkegpkladaaGreatQ5
namespace Go.Proofs.YtnnpnkegpkladaaGreat.Dm
open Go Go.ChangeShapes Go.WideShapes Go.ChangeAt Go.RowKit
theorem procI_end {β : Type} (st code par : Int) (n : Nat) (fo : Bool) (r : Bool → β) :
    (Out.ite (st == (6 : Int)) (Out.ite (((((n : Nat) : Int) == (0 : Int))) == true) (.ite (((par != (0 : Int))) == true) (.ret (r (!fo))) (.ret (r false))) (.ret (r false)))
      (Out.ite ((decide (((n : Nat) : Int) > (0 : Int))) == true) (.ret (r (code == (0 : Int)))) (.ret (r false)))).eval =
      some (r (if st = 6 then decide (n = 0) && !(par == 0) && !fo else decide (0 < n) && code == 0)) := by
  simp only [Out.eval, cond_eq_ite]
  rcases Nat.eq_zero_or_pos n with h2 | h2
  · subst h2
    by_cases h : st = 6
    · by_cases h0 : par = 0
      · simp [h, h0]
      · have h1 : (par == (0 : Int)) = false := by simpa using h0
        simp [h, h0, h1]
    · simp [h]
  · have h3 : ¬ n = 0 := by omega
    by_cases h : st = 6 <;> simp [h, h2, h3]
theorem procI_tail {β : Type} (n m : Nat) (wo uo fb : Bool) (r : Bool → β) {e : Out β} {b : Bool} (he : e.eval = some (r b)) :
    (Out.ite ((decide (((n : Nat) : Int) > (12 : Int))) == false) (.ite ((4 : Int) == 0) .fail (.ite ((((Int.tmod ((n : Nat) : Int) (4 : Int)) != (0 : Int))) == false) (.ite ((!wo) == false) (.ite (((((m : Nat) : Int) != (4 : Int))) == false)
      (.ite (!uo) (.ret (r false)) (.ite fb (.ret (r false)) e)) (.ret (r false))) (.ret (r false))) (.ret (r false)))) (.ret (r false))).eval =
      some (r (decide (n ≤ 12) && (decide (n % 4 = 0) && (wo && (decide (m = 4) && (uo && (!fb && b))))))) := by
  simp only [Out.eval, he, gt12, tmod4, ne4, beq_false, Bool.not_not]
  cases decide (n ≤ 12) <;> cases decide (n % 4 = 0) <;> cases wo <;> cases decide (m = 4) <;> cases uo <;> cases fb <;> rfl
theorem fds_end (nx tk : Int) (os : List OpenD) (st par code : Int) (mem fds : List Int) : (fds.all (fdOkV os st) && endOkV par st mem code) =
    (!(anyFdBadC fds nx tk os).1 && (if st = 6 then decide (mem.length = 0) && !(par == 0) && !(anyFdOpenV fds) else decide (0 < mem.length) && code == 0)) := by
  unfold anyFdBadC anyFdOpenV endOkV
  rw [fds_same, fdBad_all]
  by_cases h : st = 6
  · have h1 : (st == (6 : Int)) = true := by simpa using h
    rw [h1, if_pos h, if_pos h]
    cases (fds.all fun f => f == -1 || decide (0 ≤ openAtV os f)) <;> cases decide (mem.length = 0) <;> cases (par == (0 : Int)) <;> cases fds.any fdOpenV <;> rfl
  · have h1 : (st == (6 : Int)) = false := by simpa using h
    rw [h1, if_neg h, if_neg h]
    cases (fds.all fun f => f == -1 || decide (0 ≤ openAtV os f)) <;> cases decide (0 < mem.length) <;> rfl
def f225_tree (a0 : Int) (a1 : Int) (a2 : List (List InsD)) (a3 : List ProcD) (a4 : List OpenD) (a5 : List CpuD) (a6 : List CpuD) (a7 : List Int) (a8 : List Int) (a9 : Int) (a10 : Int) (a11 : Int) (a12 : Int) (a13 : Int) (a14 : List Int) (a15 : List Int) (a16 : List Int) (a17 : Int) (a18 : Int) : Out (((Bool × Unit) × Unit) × XI) :=
 .ite ((!(inV a9 (1 : Int) (IntKind.i64.wrap (a0 - (1 : Int))))) == false)
 (.ite ((!(inV a11 (1 : Int) (6 : Int))) == false)
 (.ite ((!(inV a12 (0 : Int) (IntKind.i64.wrap (((List.length a2 : Nat) : Int) - (1 : Int))))) == false)
 (.ite ((!(cpuOkV a13 a14)) == false)
 (.ite (!(wordV a18))
 (.ret (((false, ()), ()), ((), (), ())))
 (.ite ((a10 != (0 : Int)))
 (.ite ((decide ((procAtV a3 a10) < (0 : Int))) == false)
 (.ite (((a10 == a9)) == false)
 (.ite (decide (0 ≤ (procAtV a3 a10)))
 (.get (nth a3 (Int.toNat (procAtV a3 a10))) fun y1 =>
 .ite ((y1.2.2.1 == (6 : Int)))
 (.ret (((false, ()), ()), ((), (), ())))
 (.ite ((decide (((List.length a15 : Nat) : Int) > (12 : Int))) == false)
 (.ite ((4 : Int) == 0)
 .fail
 (.ite ((((Int.tmod ((List.length a15 : Nat) : Int) (4 : Int)) != (0 : Int))) == false)
 (.ite ((!(wordsOkV a15)) == false)
 (.ite (((((List.length a16 : Nat) : Int) != (4 : Int))) == false)
 (.ite (!(untilOkV a1 a4 a11 a16 a17))
 (.ret (((false, ()), ()), ((), (), ())))
 (.ite ((anyFdBadC a16 a0 a1 a4).1)
 (.ret (((false, ()), ()), ((), (), ())))
 (.ite ((a11 == (6 : Int)))
 (.ite (((((List.length a15 : Nat) : Int) == (0 : Int))) == true)
 (.ite (((a10 != (0 : Int))) == true)
 (.ret ((((!(anyFdOpenV a16)), ()), ()), ((), (), ())))
 (.ret (((false, ()), ()), ((), (), ()))))
 (.ret (((false, ()), ()), ((), (), ()))))
 (.ite ((decide (((List.length a15 : Nat) : Int) > (0 : Int))) == true)
 (.ret (((((a18 == (0 : Int))), ()), ()), ((), (), ())))
 (.ret (((false, ()), ()), ((), (), ())))))))
 (.ret (((false, ()), ()), ((), (), ()))))
 (.ret (((false, ()), ()), ((), (), ()))))
 (.ret (((false, ()), ()), ((), (), ())))))
 (.ret (((false, ()), ()), ((), (), ())))))
 .fail)
 (.ret (((false, ()), ()), ((), (), ()))))
 (.ret (((false, ()), ()), ((), (), ()))))
 (.ite ((decide (((List.length a15 : Nat) : Int) > (12 : Int))) == false)
 (.ite ((4 : Int) == 0)
 .fail
 (.ite ((((Int.tmod ((List.length a15 : Nat) : Int) (4 : Int)) != (0 : Int))) == false)
 (.ite ((!(wordsOkV a15)) == false)
 (.ite (((((List.length a16 : Nat) : Int) != (4 : Int))) == false)
 (.ite (!(untilOkV a1 a4 a11 a16 a17))
 (.ret (((false, ()), ()), ((), (), ())))
 (.ite ((anyFdBadC a16 a0 a1 a4).1)
 (.ret (((false, ()), ()), ((), (), ())))
 (.ite ((a11 == (6 : Int)))
 (.ite (((((List.length a15 : Nat) : Int) == (0 : Int))) == true)
 (.ite (((a10 != (0 : Int))) == true)
 (.ret ((((!(anyFdOpenV a16)), ()), ()), ((), (), ())))
 (.ret (((false, ()), ()), ((), (), ()))))
 (.ret (((false, ()), ()), ((), (), ()))))
 (.ite ((decide (((List.length a15 : Nat) : Int) > (0 : Int))) == true)
 (.ret (((((a18 == (0 : Int))), ()), ()), ((), (), ())))
 (.ret (((false, ()), ()), ((), (), ())))))))
 (.ret (((false, ()), ()), ((), (), ()))))
 (.ret (((false, ()), ()), ((), (), ()))))
 (.ret (((false, ()), ()), ((), (), ())))))
 (.ret (((false, ()), ()), ((), (), ()))))))
 (.ret (((false, ()), ()), ((), (), ()))))
 (.ret (((false, ()), ()), ((), (), ()))))
 (.ret (((false, ()), ()), ((), (), ()))))
 (.ret (((false, ()), ()), ((), (), ())))
def procOkI (next tick : Int) (progs : List (List InsD)) (ps : List ProcD) (os : List OpenD) (pid par st pg pc : Int) (regs mem fds : List Int) (unt code : Int) : Bool :=
  inV pid 1 (IntKind.i64.wrap (next - 1)) && procOkV tick progs.length ps os pid par st pg pc regs mem fds unt code
def k225 : Con := { f := 225, lend := true, its := [⟨false, true, [.i .i64, .i .i64, .ro (.sl tyN), .ro tyP, .ro tyO, .ro tyF, .ro tyF, .ro (.int .i64), .ro (.int .i64)]⟩, ⟨false, true, [.i .i64, .i .i64, .i .i64, .i .i64, .i .i64, .ro (.int .i64), .ro (.int .i64), .ro (.int .i64), .i .i64, .i .i64]⟩], lay := [none, none], rs := [⟨false, false, [.b]⟩], F := fun x => .ret ((((procOkI x.1.1 x.1.2.1 x.1.2.2.1 x.1.2.2.2.1 x.1.2.2.2.2.1 x.2.1.1 x.2.1.2.1 x.2.1.2.2.1 x.2.1.2.2.2.1 x.2.1.2.2.2.2.1 x.2.1.2.2.2.2.2.1 x.2.1.2.2.2.2.2.2.1 x.2.1.2.2.2.2.2.2.2.1 x.2.1.2.2.2.2.2.2.2.2.1 x.2.1.2.2.2.2.2.2.2.2.2.1), ()), ()), ((), (), ())) }
theorem f225_eq (x : itemsD k225.its) : bo [k25, k265, k145, k266, k223, k267, k191p, k191q] (fun _ => none) Tryz.f225 k225 [.tmp 4] x = f225_tree x.1.1 x.1.2.1 x.1.2.2.1 x.1.2.2.2.1 x.1.2.2.2.2.1 x.1.2.2.2.2.2.1 x.1.2.2.2.2.2.2.1 x.1.2.2.2.2.2.2.2.1 x.1.2.2.2.2.2.2.2.2.1 x.2.1.1 x.2.1.2.1 x.2.1.2.2.1 x.2.1.2.2.2.1 x.2.1.2.2.2.2.1 x.2.1.2.2.2.2.2.1 x.2.1.2.2.2.2.2.2.1 x.2.1.2.2.2.2.2.2.2.1 x.2.1.2.2.2.2.2.2.2.2.1 x.2.1.2.2.2.2.2.2.2.2.2.1 := by kernel_rfl
theorem f225_ok (hr : ∀ x : UnixD × XM × Unit, itemsWF k225.its x → (f225_tree x.1.1 x.1.2.1 x.1.2.2.1 x.1.2.2.2.1 x.1.2.2.2.2.1 x.1.2.2.2.2.2.1 x.1.2.2.2.2.2.2.1 x.1.2.2.2.2.2.2.2.1 x.1.2.2.2.2.2.2.2.2.1 x.2.1.1 x.2.1.2.1 x.2.1.2.2.1 x.2.1.2.2.2.1 x.2.1.2.2.2.2.1 x.2.1.2.2.2.2.2.1 x.2.1.2.2.2.2.2.2.1 x.2.1.2.2.2.2.2.2.2.1 x.2.1.2.2.2.2.2.2.2.2.1 x.2.1.2.2.2.2.2.2.2.2.2.1).eval = (k225.F x).eval) : k225.Ok Tryz.prog := con_fn [k25, k265, k145, k266, k223, k267, k191p, k191q] ⟨k25_ok, k265_ok, k145_ok, k266_ok, k223_ok, k267_ok, k191p_ok, k191q_ok, trivial⟩ f225_eq fun x hw _ hy => (hr x hw).trans hy
theorem k225_ok : k225.Ok Tryz.prog := by
  refine f225_ok fun x hw => ?_
  obtain ⟨⟨a0, a1, a2, a3, a4, a5, a6, a7, a8, _⟩, ⟨a9, a10, a11, a12, a13, a14, a15, a16, a17, a18, _⟩, _⟩ := x
  have l2 : List.length a2 ≤ BIG := hw.1.1.1
  have l3 : List.length a3 ≤ BIG := hw.1.2.1.1
  have l4 : List.length a4 ≤ BIG := hw.1.2.2.1.1
  have l5 : List.length a5 ≤ BIG := hw.1.2.2.2.1.1
  have l6 : List.length a6 ≤ BIG := hw.1.2.2.2.2.1.1
  have l7 : List.length a7 ≤ BIG := hw.1.2.2.2.2.2.1.1
  have l8 : List.length a8 ≤ BIG := hw.1.2.2.2.2.2.2.1.1
  have l14 : List.length a14 ≤ BIG := hw.2.1.1.1
  have l15 : List.length a15 ≤ BIG := hw.2.1.2.1.1
  have l16 : List.length a16 ≤ BIG := hw.2.1.2.2.1.1
  show (f225_tree a0 a1 a2 a3 a4 a5 a6 a7 a8 a9 a10 a11 a12 a13 a14 a15 a16 a17 a18).eval = some ((((procOkI a0 a1 a2 a3 a4 a9 a10 a11 a12 a13 a14 a15 a16 a17 a18), ()), ()), ((), (), ()))
  unfold f225_tree
  by_cases c1 : inV a9 1 (IntKind.i64.wrap (a0 - 1)) = true
  case neg => rw [eval_ite_f (by first | (simp [c1]; done) | (rw [decide_eq_true (by omega)]; done) | (rw [decide_eq_false (by omega)]; done) | (rw [decide_eq_true (by omega)]; rfl) | (rw [decide_eq_false (by omega)]; rfl) | (rw [c1]; rfl) | (rw [Bool.eq_false_iff.2 c1]; rfl))]; simp [Out.eval, procOkI, c1]
  rw [eval_ite_t (by first | (simp [c1]; done) | (rw [decide_eq_true (by omega)]; done) | (rw [decide_eq_false (by omega)]; done) | (rw [decide_eq_true (by omega)]; rfl) | (rw [decide_eq_false (by omega)]; rfl) | (rw [c1]; rfl) | (rw [Bool.eq_false_iff.2 c1]; rfl))]
  by_cases c2 : inV a11 1 6 = true
  case neg => rw [eval_ite_f (by first | (simp [c2]; done) | (rw [decide_eq_true (by omega)]; done) | (rw [decide_eq_false (by omega)]; done) | (rw [decide_eq_true (by omega)]; rfl) | (rw [decide_eq_false (by omega)]; rfl) | (rw [c2]; rfl) | (rw [Bool.eq_false_iff.2 c2]; rfl))]; simp [Out.eval, procOkI, procOkV, c2]
  rw [eval_ite_t (by first | (simp [c2]; done) | (rw [decide_eq_true (by omega)]; done) | (rw [decide_eq_false (by omega)]; done) | (rw [decide_eq_true (by omega)]; rfl) | (rw [decide_eq_false (by omega)]; rfl) | (rw [c2]; rfl) | (rw [Bool.eq_false_iff.2 c2]; rfl))]
  have e0 : inV a12 0 (IntKind.i64.wrap (((List.length a2 : Nat) : Int) - 1)) = (decide (0 ≤ a12) && decide (a12 < ((List.length a2 : Nat) : Int))) := by
    have : List.length a2 ≤ 9223372036854775807 := l2
    unfold inV
    rw [wrap_le (by omega) (by omega)]
    congr 1
    rw [Bool.eq_iff_iff]; simp; omega
  rw [e0]
  by_cases c3 : (decide (0 ≤ a12) && decide (a12 < ((List.length a2 : Nat) : Int))) = true
  case neg => rw [eval_ite_f (by first | (simp [c3]; done) | (rw [decide_eq_true (by omega)]; done) | (rw [decide_eq_false (by omega)]; done) | (rw [decide_eq_true (by omega)]; rfl) | (rw [decide_eq_false (by omega)]; rfl) | (rw [c3]; rfl) | (rw [Bool.eq_false_iff.2 c3]; rfl))]; simp [Out.eval, procOkI, procOkV, c3]
  rw [eval_ite_t (by first | (simp [c3]; done) | (rw [decide_eq_true (by omega)]; done) | (rw [decide_eq_false (by omega)]; done) | (rw [decide_eq_true (by omega)]; rfl) | (rw [decide_eq_false (by omega)]; rfl) | (rw [c3]; rfl) | (rw [Bool.eq_false_iff.2 c3]; rfl))]
  by_cases c4 : cpuOkV a13 a14 = true
  case neg => rw [eval_ite_f (by first | (simp [c4]; done) | (rw [decide_eq_true (by omega)]; done) | (rw [decide_eq_false (by omega)]; done) | (rw [decide_eq_true (by omega)]; rfl) | (rw [decide_eq_false (by omega)]; rfl) | (rw [c4]; rfl) | (rw [Bool.eq_false_iff.2 c4]; rfl))]; simp [Out.eval, procOkI, procOkV, c4]
  rw [eval_ite_t (by first | (simp [c4]; done) | (rw [decide_eq_true (by omega)]; done) | (rw [decide_eq_false (by omega)]; done) | (rw [decide_eq_true (by omega)]; rfl) | (rw [decide_eq_false (by omega)]; rfl) | (rw [c4]; rfl) | (rw [Bool.eq_false_iff.2 c4]; rfl))]
  by_cases c5 : wordV a18 = true
  case neg => rw [eval_ite_t (by first | (simp [c5]; done) | (rw [decide_eq_true (by omega)]; done) | (rw [decide_eq_false (by omega)]; done) | (rw [decide_eq_true (by omega)]; rfl) | (rw [decide_eq_false (by omega)]; rfl) | (rw [c5]; rfl) | (rw [Bool.eq_false_iff.2 c5]; rfl))]; simp [Out.eval, procOkI, procOkV, c5]
  rw [eval_ite_f (by first | (simp [c5]; done) | (rw [decide_eq_true (by omega)]; done) | (rw [decide_eq_false (by omega)]; done) | (rw [decide_eq_true (by omega)]; rfl) | (rw [decide_eq_false (by omega)]; rfl) | (rw [c5]; rfl) | (rw [Bool.eq_false_iff.2 c5]; rfl))]
  have e : procOkI a0 a1 a2 a3 a4 a9 a10 a11 a12 a13 a14 a15 a16 a17 a18 = (parentOkV a3 a9 a10 && (decide (List.length a15 ≤ 12) && (decide (List.length a15 % 4 = 0) && (wordsOkV a15 && (decide (List.length a16 = 4) && (untilOkV a1 a4 a11 a16 a17 && (List.all a16 (fdOkV a4 a11) && endOkV a10 a11 a15 a18))))))) := by
    unfold procOkI procOkV
    rw [c1, c2, c3, c4, c5]
    cases decide (List.length a15 ≤ 12) <;> cases decide (List.length a15 % 4 = 0) <;> cases wordsOkV a15 <;> cases decide (List.length a16 = 4) <;> cases List.all a16 (fdOkV a4 a11) <;> cases parentOkV a3 a9 a10 <;> cases untilOkV a1 a4 a11 a16 a17 <;> rfl
  rw [e, fds_end a0 a1]
  have en := procI_end a11 a18 a10 (List.length a15) (anyFdOpenV a16) (fun b => (((b, ()), ()), ((), (), ())))
  have tl := procI_tail (List.length a15) (List.length a16) (wordsOkV a15) (untilOkV a1 a4 a11 a16 a17) (anyFdBadC a16 a0 a1 a4).1 (fun b => (((b, ()), ()), ((), (), ()))) en
  by_cases p0 : a10 = 0
  · have e2 : parentOkV a3 a9 a10 = true := by simp [parentOkV, p0]
    rw [e2, Bool.true_and, eval_ite_f (by simp [p0])]
    exact tl
  · rw [eval_ite_t (by simp [p0])]
    cases hx : idxBy procKey a3 a10 with
    | none =>
      have e2 : parentOkV a3 a9 a10 = false := by simp [parentOkV, p0, hx]
      have e3 : procAtV a3 a10 = -1 := placeBy_none hx
      rw [e2, e3]; rfl
    | some i =>
      have hi := idxBy_lt hx
      have e3 : procAtV a3 a10 = ((i : Nat) : Int) := placeBy_some hx
      rw [e3, eval_ite_t (by rw [decide_eq_false (by omega)]; rfl), Int.toNat_natCast]
      by_cases p1 : a10 = a9
      · have p2 : (a10 == a9) = true := by simpa using p1
        have p3 : (a10 == (0 : Int)) = false := by simpa using p0
        have e2 : parentOkV a3 a9 a10 = false := by unfold parentOkV; rw [p3, p2]; simp
        rw [e2, eval_ite_f (by rw [p2]; rfl)]; rfl
      · rw [eval_ite_t (by simp [p1]), eval_ite_t (ge0 i)]
        refine (eval_get_some (x := a3[i]) (by simp [nth, hi])).trans ?_
        by_cases p2 : a3[i].2.2.1 = 6
        · have e2 : parentOkV a3 a9 a10 = false := by simp [parentOkV, p0, hx, hi, p2]
          rw [e2, eval_ite_t (by simp [p2])]; rfl
        · have e2 : parentOkV a3 a9 a10 = true := by simp [parentOkV, p0, p1, hx, hi, p2]
          rw [e2, Bool.true_and, eval_ite_f (by simp [p2])]
          exact tl
end Go.Proofs.YtnnpnkegpkladaaGreat.Dm
