/- Functions of the program, and what they compute. -/
import Derived.Test.YtjcinikojcfebaaA11
namespace Go.Proofs.Ytjcinikojcfebaa.Dm
open Go Go.ChangeShapes Go.WideShapes Go.ChangeAt Go.RowKit

/-! ## Right savers -/
def saverOkV (a : List Str) (b : List WriteD) (c d : List FileD) (q p : Int) : Bool := diskOkV a b && (filesOkV c && (filesOkV d && (inV q 0 1000000 && (inV p 0 4 && (bif p != 0 then true else (((d.length : Nat) : Int) == 0))))))
def f78_tree (a0 : List (List UInt8)) (a1 : List (Int × List UInt8 × Unit)) (a2 : List (Int × List Int × Unit)) (a3 : List (Int × List Int × Unit)) (a4 : Int) (a5 : Int) : Out (((Bool × Unit) × Unit) × (Unit × Unit)) :=
 .ite ((diskOkV a0 a1) == true)
 (.ite ((filesOkV a2) == true)
 (.ite ((filesOkV a3) == true)
 (.ite ((inV a4 (0 : Int) (1000000 : Int)) == true)
 (.ite ((inV a5 (0 : Int) (4 : Int)) == true)
 (.ite (((a5 != (0 : Int))) == false)
 (.ret (((((((List.length a3 : Nat) : Int) == (0 : Int))), ()), ()), ((), ())))
 (.ret (((true, ()), ()), ((), ()))))
 (.ret (((false, ()), ()), ((), ()))))
 (.ret (((false, ()), ()), ((), ()))))
 (.ret (((false, ()), ()), ((), ()))))
 (.ret (((false, ()), ()), ((), ()))))
 (.ret (((false, ()), ()), ((), ())))
def k78 : Con := { f := 78, lend := true, its := [⟨false, true, [.ro .str, .ro (.st (.cons (.int .i64) (.cons .str .nil))), .ro (.st (.cons (.int .i64) (.cons (.sl (.int .i64)) .nil))), .ro (.st (.cons (.int .i64) (.cons (.sl (.int .i64)) .nil))), .i .i64, .i .i64]⟩], lay := [none], rs := [⟨false, false, [.b]⟩], F := fun x => .ret ((((saverOkV x.1.1 x.1.2.1 x.1.2.2.1 x.1.2.2.2.1 x.1.2.2.2.2.1 x.1.2.2.2.2.2.1), ()), ()), ((), ())) }
theorem f78_eq (x : itemsD k78.its) : bodyOut (cxOf [k37, k148, k165]) (fun _ => none) (codeOf Try.f78) k78.its k78.lay Try.f78.ntmps k78.rs [.tmp 2] x = f78_tree x.1.1 x.1.2.1 x.1.2.2.1 x.1.2.2.2.1 x.1.2.2.2.2.1 x.1.2.2.2.2.2.1 := by kernel_rfl
theorem f78_ok (hr : ∀ x : (List (List UInt8) × List (Int × List UInt8 × Unit) × List (Int × List Int × Unit) × List (Int × List Int × Unit) × Int × Int × Unit) × Unit, itemsWF k78.its x → (f78_tree x.1.1 x.1.2.1 x.1.2.2.1 x.1.2.2.2.1 x.1.2.2.2.2.1 x.1.2.2.2.2.2.1).eval = (k78.F x).eval) : k78.Ok Try.prog :=
  con_fn [k37, k148, k165] ⟨k37_ok, k148_ok, k165_ok, trivial⟩ (by kernel_rfl) (codeOf_eq (by kernel_rfl)) (by kernel_rfl) (by kernel_rfl) (by kernel_rfl) f78_eq fun x hw _ hy => (hr x hw).trans hy
theorem k78_ok : k78.Ok Try.prog := by
  refine f78_ok fun x _ => ?_
  obtain ⟨⟨a, b, c, d, q, p, _⟩, _⟩ := x
  show (f78_tree a b c d q p).eval = some (((saverOkV a b c d q p, ()), ()), ((), ()))
  unfold f78_tree saverOkV
  cases diskOkV a b <;> cases filesOkV c <;> cases filesOkV d <;> cases inV q 0 1000000 <;> cases inV p 0 4 <;> cases (p != 0) <;> rfl
def f80_tree (a0 : List (List UInt8)) (a1 : List (Int × List UInt8 × Unit)) (a2 : List (Int × List Int × Unit)) (a3 : List (Int × List Int × Unit)) (a4 : Int) (a5 : Int) : Out (((Bool × Unit) × Unit) × (Unit × Unit)) :=
 .ite ((diskOkV a0 a1) == true)
 (.ite ((filesOkV a2) == true)
 (.ite ((filesOkV a3) == true)
 (.ite ((inV a4 (0 : Int) (1000000 : Int)) == true)
 (.ite ((inV a5 (0 : Int) (4 : Int)) == true)
 (.ite (((a5 != (0 : Int))) == false)
 (.ret (((((((List.length a3 : Nat) : Int) == (0 : Int))), ()), ()), ((), ())))
 (.ret (((true, ()), ()), ((), ()))))
 (.ret (((false, ()), ()), ((), ()))))
 (.ret (((false, ()), ()), ((), ()))))
 (.ret (((false, ()), ()), ((), ()))))
 (.ret (((false, ()), ()), ((), ()))))
 (.ret (((false, ()), ()), ((), ())))
def k80 : Con := { f := 80, lend := true, its := [⟨false, true, [.ro .str, .ro (.st (.cons (.int .i64) (.cons .str .nil))), .ro (.st (.cons (.int .i64) (.cons (.sl (.int .i64)) .nil))), .ro (.st (.cons (.int .i64) (.cons (.sl (.int .i64)) .nil))), .i .i64, .i .i64]⟩], lay := [none], rs := [⟨false, false, [.b]⟩], F := fun x => .ret ((((saverOkV x.1.1 x.1.2.1 x.1.2.2.1 x.1.2.2.2.1 x.1.2.2.2.2.1 x.1.2.2.2.2.2.1), ()), ()), ((), ())) }
theorem f80_eq (x : itemsD k80.its) : bodyOut (cxOf [k39, k151, k166]) (fun _ => none) (codeOf Try.f80) k80.its k80.lay Try.f80.ntmps k80.rs [.tmp 2] x = f80_tree x.1.1 x.1.2.1 x.1.2.2.1 x.1.2.2.2.1 x.1.2.2.2.2.1 x.1.2.2.2.2.2.1 := by kernel_rfl
theorem f80_ok (hr : ∀ x : (List (List UInt8) × List (Int × List UInt8 × Unit) × List (Int × List Int × Unit) × List (Int × List Int × Unit) × Int × Int × Unit) × Unit, itemsWF k80.its x → (f80_tree x.1.1 x.1.2.1 x.1.2.2.1 x.1.2.2.2.1 x.1.2.2.2.2.1 x.1.2.2.2.2.2.1).eval = (k80.F x).eval) : k80.Ok Try.prog :=
  con_fn [k39, k151, k166] ⟨k39_ok, k151_ok, k166_ok, trivial⟩ (by kernel_rfl) (codeOf_eq (by kernel_rfl)) (by kernel_rfl) (by kernel_rfl) (by kernel_rfl) f80_eq fun x hw _ hy => (hr x hw).trans hy
theorem k80_ok : k80.Ok Try.prog := by
  refine f80_ok fun x _ => ?_
  obtain ⟨⟨a, b, c, d, q, p, _⟩, _⟩ := x
  show (f80_tree a b c d q p).eval = some (((saverOkV a b c d q p, ()), ()), ((), ()))
  unfold f80_tree saverOkV
  cases diskOkV a b <;> cases filesOkV c <;> cases filesOkV d <;> cases inV q 0 1000000 <;> cases inV p 0 4 <;> cases (p != 0) <;> rfl
theorem szSaver_le {a : List Str} {b : List WriteD} {c d : List FileD} {q p left : Int} (ha : a.length ≤ BIG) (ha' : ∀ x ∈ a, x.length ≤ BIG) (hb : b.length ≤ BIG) (hb' : ∀ x ∈ b, x.2.1.length ≤ BIG)
    (hc : c.length ≤ BIG) (hc' : ∀ x ∈ c, x.2.1.length ≤ BIG) (hd : d.length ≤ BIG) (hd' : ∀ x ∈ d, x.2.1.length ≤ BIG) (h0 : 0 ≤ left) (h1 : left ≤ 1048576) (h : ¬ szSaverV a b c d q p left < 0) :
    (a.length ≤ 1048576 ∧ b.length ≤ 1048576) ∧ (cntF c ≤ 1048576 ∧ cntF d ≤ 1048576) ∧ 0 ≤ szSaverV a b c d q p left ∧ szSaverV a b c d q p left ≤ 1048576 := by
  unfold szSaverV at h ⊢
  obtain ⟨g1, e1⟩ := thenV_not h
  rw [e1] at h ⊢
  obtain ⟨g2, e2⟩ := thenV_not h
  rw [e2] at h ⊢
  obtain ⟨g3, e3⟩ := thenV_not h
  rw [e3]
  have s1 := szDisk_le ha ha' hb hb' (by omega) h1 g1
  have s2 := szFilesV_eq hc hc' (by omega) (by omega) g2
  have s3 := szFilesV_eq hd hd' (by omega) (by omega) g3
  omega
theorem toSaverV_some {a : List Str} {b : List WriteD} {c d : List FileD} {q p : Int} (ha : a.length ≤ 1048576) (hb : b.length ≤ 1048576) (hc : cntF c ≤ 1048576) (hd : cntF d ≤ 1048576) : toSaverV a b c d q p = some (a, b, c, d, q, p) :=
  if_pos ⟨⟨by rw [LIM_eq]; omega, by rw [LIM_eq]; omega⟩, limF_of hc, limF_of hd⟩
/-! ## Records of the log, read -/
def readTxnRV (s : Str) : Int × List WriteD × Bool := match readTxnV s with
  | some (q, a) => (q, a, true)
  | none => (0, [], false)
theorem numsP_nil (n : Nat) : numsP (n + 1) [] = none := by
  have : rvI [] = none := rvI_none.2 fun i hi => by simp at hi
  simp only [numsP, this]
theorem readTxnV_short {s : Str} (h : s.length < 5) : readTxnV s = none := by
  unfold readTxnV txnP
  rw [List.drop_of_length_le (by omega), numsP_nil]
theorem readTxnRV_none {s : Str} (h : readTxnV s = none) : readTxnRV s = (0, [], false) := by unfold readTxnRV; rw [h]
theorem readTxnRV_some {s : Str} {q : Int} {a : List WriteD} (h : readTxnV s = some (q, a)) : readTxnRV s = (q, a, true) := by unfold readTxnRV; rw [h]
abbrev f81_S0 := (List UInt8 × Int × Int × Unit) × ((Int × Unit) × List (Int) × (Int × Unit) × List ((Int × List UInt8 × Unit)) × List ((Int × List UInt8 × Unit)) × Unit)
def f81_L0 (x : f81_S0) : Out (Round f81_S0 ((List UInt8 × Unit) × ((Int × Unit) × (Int × Unit) × List ((Int × List UInt8 × Unit)) × List ((Int × List UInt8 × Unit)) × Unit)) ((Bool × Unit) × ((Int × Unit) × List ((Int × List UInt8 × Unit)) × Unit))) :=
 .ite (decide (0 ≤ (1 : Int) ∧ (1 : Int) < ((List.length x.2.2.1 : Nat) : Int)))
 (.get (nth x.2.2.1 (Int.toNat (1 : Int))) fun y1 =>
 .ite (decide (x.1.2.2.1 < y1))
 (.get (l3VarsV x.1.1 x.1.2.1 (2 : Int)) fun y2 =>
 .ite ((decide (y2.2 < (0 : Int))) == false)
 (.ite (decide (0 ≤ (1 : Int) ∧ (1 : Int) < ((List.length y2.1 : Nat) : Int)))
 (.get (nth y2.1 (Int.toNat (1 : Int))) fun y3 =>
 .ite (decide (y3 > (IntKind.i64.wrap (((List.length x.1.1 : Nat) : Int) - y2.2))))
 (.ret (.ret ((false, ()), (((0 : Int), ()), ([] : List ((Int × List UInt8 × Unit))), ()))))
 (.ite (decide (0 ≤ (0 : Int) ∧ (0 : Int) < ((List.length y2.1 : Nat) : Int)))
 (.get (nth y2.1 (Int.toNat (0 : Int))) fun y4 =>
 .ite (decide (0 ≤ (1 : Int) ∧ (1 : Int) < ((List.length y2.1 : Nat) : Int)))
 (.get (nth y2.1 (Int.toNat (1 : Int))) fun y5 =>
 .ite (decide (0 ≤ y2.2 ∧ y2.2 ≤ (IntKind.i64.wrap (y2.2 + y5)) ∧ (IntKind.i64.wrap (y2.2 + y5)) ≤ ((List.length x.1.1 : Nat) : Int)))
 (.ite (decide (List.length x.2.2.2.2.2.1 + List.length ([(y4, (List.drop (Int.toNat y2.2) (List.take (Int.toNat (IntKind.i64.wrap (y2.2 + y5))) x.1.1)), ())] : List ((Int × List UInt8 × Unit))) ≤ LIM))
 (.ite (decide (0 ≤ (1 : Int) ∧ (1 : Int) < ((List.length y2.1 : Nat) : Int)))
 (.get (nth y2.1 (Int.toNat (1 : Int))) fun y6 =>
 .ret (.again ((x.1.1, (IntKind.i64.wrap (y2.2 + y6)), (IntKind.i64.wrap (x.1.2.2.1 + (1 : Int))), ()), ((x.2.1.1, ()), x.2.2.1, (x.2.2.2.1.1, ()), x.2.2.2.2.1, (x.2.2.2.2.2.1 ++ ([(y4, (List.drop (Int.toNat y2.2) (List.take (Int.toNat (IntKind.i64.wrap (y2.2 + y5))) x.1.1)), ())] : List ((Int × List UInt8 × Unit)))), ()))))
 .fail)
 .fail)
 .fail)
 .fail)
 .fail))
 .fail)
 (.ret (.ret ((false, ()), (((0 : Int), ()), ([] : List ((Int × List UInt8 × Unit))), ())))))
 (.ret (.out ((x.1.1, ()), ((x.2.1.1, ()), (x.2.2.2.1.1, ()), x.2.2.2.2.1, x.2.2.2.2.2.1, ())))))
 .fail
def f81_tree (a0 : List UInt8) : Out (((Int × List (Int × List UInt8 × Unit) × Unit) × (Bool × Unit) × Unit) × (Unit × Unit)) :=
 .get (l3VarsV a0 (5 : Int) (2 : Int)) fun y1 =>
 .ite ((decide (y1.2 < (0 : Int))) == false)
 (.ite (decide (0 ≤ (1 : Int) ∧ (1 : Int) < ((List.length y1.1 : Nat) : Int)))
 (.get (nth y1.1 (Int.toNat (1 : Int))) fun y2 =>
 .ite (decide (y2 > (6 : Int)))
 (.ret ((((0 : Int), ([] : List ((Int × List UInt8 × Unit))), ()), (false, ()), ()), ((), ())))
 (.ite (decide (0 ≤ (0 : Int) ∧ (0 : Int) < ((List.length y1.1 : Nat) : Int)))
 (.get (nth y1.1 (Int.toNat (0 : Int))) fun y3 =>
 .get (iter f81_L0 FUEL ((a0, y1.2, (0 : Int), ()), (((0 : Int), ()), y1.1, (y3, ()), ([] : List ((Int × List UInt8 × Unit))), ([] : List ((Int × List UInt8 × Unit))), ()))) fun y4 => .alt y4 (fun y5 =>
 .ite ((showTxnV y5.2.2.1.1 y5.2.2.2.2.1) != y5.1.1)
 (.ret ((((0 : Int), ([] : List ((Int × List UInt8 × Unit))), ()), (false, ()), ()), ((), ())))
 (.ret (((y5.2.2.1.1, y5.2.2.2.2.1, ()), (true, ()), ()), ((), ())))) (fun y6 =>
 .ret (((y6.2.1.1, y6.2.2.1, ()), (y6.1.1, ()), ()), ((), ()))))
 .fail))
 .fail)
 (.ret ((((0 : Int), ([] : List ((Int × List UInt8 × Unit))), ()), (false, ()), ()), ((), ())))
def f81_A : Nat → Option LoopAnn := fun n => annOf [(0, { head := { t := [.s, .dead, .vptr 64000000 0, .dead, .srf 64000001, .i .i64, .vptr 64000002 0, .i .i64, .dead, .dead, .dead, .dead, .dead, .dead, .dead, .dead, .dead, .dead, .dead, .dead, .dead, .dead, .dead, .dead, .dead, .dead, .dead, .dead, .dead, .dead, .dead, .dead, .dead, .dead, .dead, .dead, .dead, .dead, .dead, .dead, .dead, .dead, .dead, .dead, .dead, .dead, .dead, .dead, .dead, .dead, .dead, .dead, .dead, .dead, .dead, .dead, .dead, .dead, .dead, .dead, .dead, .dead, .dead, .dead, .dead, .dead, .dead, .dead, .dead, .dead, .dead, .dead, .dead, .dead, .dead, .dead, .dead, .dead, .dead, .dead, .dead, .dead], v := [(64000000, .var [.i .i64, .srf 64000003]), (64000001, .arr (.int .i64)), (64000002, .var [.i .i64, .srf 64000004]), (64000003, .arr (.st (.cons (.int .i64) (.cons .str .nil)))), (64000004, .arr (.st (.cons (.int .i64) (.cons .str .nil))))] }, out := { t := [.s, .dead, .vptr 64000256 0, .dead, .dead, .dead, .vptr 64000257 0, .dead, .dead, .dead, .dead, .dead, .dead, .dead, .dead, .dead, .dead, .dead, .dead, .dead, .dead, .dead, .dead, .dead, .dead, .dead, .dead, .dead, .dead, .dead, .dead, .dead, .dead, .dead, .dead, .dead, .dead, .dead, .dead, .dead, .dead, .dead, .dead, .dead, .dead, .dead, .dead, .dead, .dead, .dead, .dead, .dead, .dead, .dead, .dead, .dead, .dead, .dead, .dead, .dead, .dead, .dead, .dead, .dead, .dead, .dead, .dead, .dead, .dead, .dead, .dead, .dead, .dead, .dead, .dead, .dead, .dead, .dead, .dead, .dead, .dead, .dead], v := [(64000256, .var [.i .i64, .srf 64000258]), (64000257, .var [.i .i64, .srf 64000259]), (64000258, .arr (.st (.cons (.int .i64) (.cons .str .nil)))), (64000259, .arr (.st (.cons (.int .i64) (.cons .str .nil))))] }, ret := some { t := [.dead, .dead, .vptr 64000512 0, .b, .dead, .dead, .dead, .dead, .dead, .dead, .dead, .dead, .dead, .dead, .dead, .dead, .dead, .dead, .dead, .dead, .dead, .dead, .dead, .dead, .dead, .dead, .dead, .dead, .dead, .dead, .dead, .dead, .dead, .dead, .dead, .dead, .dead, .dead, .dead, .dead, .dead, .dead, .dead, .dead, .dead, .dead, .dead, .dead, .dead, .dead, .dead, .dead, .dead, .dead, .dead, .dead, .dead, .dead, .dead, .dead, .dead, .dead, .dead, .dead, .dead, .dead, .dead, .dead, .dead, .dead, .dead, .dead, .dead, .dead, .dead, .dead, .dead, .dead, .dead, .dead, .dead, .dead], v := [(64000512, .var [.i .i64, .srf 64000513]), (64000513, .arr (.st (.cons (.int .i64) (.cons .str .nil))))] } })] n
def k81 : Con := { f := 81, lend := true, its := [⟨false, false, [.s]⟩], lay := [none], rs := [⟨false, true, [.i .i64, .own (.st (.cons (.int .i64) (.cons .str .nil)))]⟩, ⟨false, false, [.b]⟩], F := fun x => .ret ((((readTxnRV x.1.1).1, (readTxnRV x.1.1).2.1, ()), ((readTxnRV x.1.1).2.2, ()), ()), ((), ())) }
theorem f81_eq (x : itemsD k81.its) : bodyOut (cxOf [k167, k41]) (f81_A) (codeOf Try.f81) k81.its k81.lay Try.f81.ntmps k81.rs [.cell 2 54, .tmp 3] x = f81_tree x.1.1 := by kernel_rfl
theorem f81_ok (hr : ∀ x : (List UInt8 × Unit) × Unit, itemsWF k81.its x → (f81_tree x.1.1).eval = (k81.F x).eval) : k81.Ok Try.prog :=
  con_fn [k167, k41] ⟨k167_ok, k41_ok, trivial⟩ (by kernel_rfl) (codeOf_eq (by kernel_rfl)) (by kernel_rfl) (by kernel_rfl) (by kernel_rfl) f81_eq fun x hw _ hy => (hr x hw).trans hy
theorem k81_ok : k81.Ok Try.prog := by
  refine f81_ok fun x hw => ?_
  obtain ⟨⟨s, _⟩, _⟩ := x
  have hs : s.length ≤ BIG := hw.1.1
  show (f81_tree s).eval = some ((((readTxnRV s).1, ((readTxnRV s).2.1, ())), (((readTxnRV s).2.2, ()), ())), ((), ()))
  unfold f81_tree
  have v1 : l3VarsV s 5 2 = some (varsAtV s 2 5 []) := l3VarsV_some s 5 (n := 2) (by decide)
  refine (eval_get_some v1).trans ?_
  by_cases h5 : s.length < 5
  · rw [readTxnRV_none (readTxnV_short h5)]
    have e : varsAtV s 2 5 [] = ([], -1) := by unfold varsAtV; rw [if_pos (.inr (by omega))]
    rw [e]; rfl
  have h1 := varsAtV_eq s 2 5 [] (by omega)
  cases hv : numsP 2 (s.drop 5) with
  | none =>
    rw [hv] at h1
    obtain ⟨l, e, _⟩ := h1
    have e : varsAtV s 2 5 [] = (l, -1) := e
    rw [e, readTxnRV_none (by unfold readTxnV txnP; rw [hv])]; rfl
  | some x =>
    obtain ⟨v, k⟩ := x
    rw [hv] at h1
    have hle := numsP_le hv
    rw [List.length_drop] at hle
    obtain ⟨q, n, rfl⟩ := two_of hle.2.1
    have e : varsAtV s 2 5 [] = ([q, n], ((5 + k : Nat) : Int)) := h1
    rw [e]
    have hn0 := (hle.2.2.1 n (by simp)).1
    obtain ⟨n, rfl⟩ := Int.eq_ofNat_of_zero_le hn0
    have q1 : decide (((5 + k : Nat) : Int) < 0) = false := decide_eq_false (by omega)
    dsimp only
    rw [q1]
    refine (eval_ite_t rfl).trans ((eval_ite_t rfl).trans ((eval_get_some (x := ((n : Nat) : Int)) rfl).trans ?_))
    have hr : readTxnV s = if 6 < n then none else match outsP n ((s.drop 5).drop k) with
        | none => none
        | some (l, _) => if showTxnV q l = s then some (q, l) else none := by
      unfold readTxnV txnP
      rw [hv]
      by_cases h6 : 6 < n
      · rw [if_pos h6]; simp only; rw [if_pos (by omega)]
      · rw [if_neg h6]; simp only; rw [if_neg (by omega), Int.toNat_natCast]
        cases outsP n ((s.drop 5).drop k) <;> rfl
    by_cases h6 : 6 < n
    · rw [if_pos h6] at hr
      rw [eval_ite_t (decide_eq_true (by omega)), readTxnRV_none hr]; rfl
    · rw [if_neg h6] at hr
      rw [eval_ite_f (decide_eq_false (by omega))]
      refine (eval_ite_t rfl).trans ((eval_get_some (x := q) rfl).trans ?_)
      have key : ∀ (m j p N : Nat) (out : List WriteD), j + m = n → m < N → p ≤ s.length → out.length = j → iter f81_L0 N ((s, (((p : Nat) : Int), (((j : Nat) : Int), ()))), (((0 : Int), ()), ([q, ((n : Nat) : Int)], ((q, ()), (([] : List WriteD), (out, ())))))) =
          some (match outsP m (s.drop p) with | none => .inr ((false, ()), (((0 : Int), ()), (([] : List WriteD), ()))) | some (l, _) => .inl ((s, ()), (((0 : Int), ()), ((q, ()), (([] : List WriteD), (out ++ l, ())))))) := by
        intro m
        induction m with
        | zero =>
          intro j p N out hj hN hp ho
          have w3 : decide (((j : Nat) : Int) < ((n : Nat) : Int)) = false := decide_eq_false (by omega)
          rw [iter_out' (y := ((s, ()), (((0 : Int), ()), ((q, ()), (([] : List WriteD), (out, ())))))) ?_ hN]
          · simp [outsP]
          · refine (eval_ite_t rfl).trans ((eval_get_some (x := ((n : Nat) : Int)) rfl).trans ?_)
            exact (eval_ite_f w3).trans rfl
        | succ m ih =>
          intro j p N out hj hN hp ho
          have w3 : decide (((j : Nat) : Int) < ((n : Nat) : Int)) = true := decide_eq_true (by omega)
          have v4 : l3VarsV s ((p : Nat) : Int) 2 = some (varsAtV s 2 ((p : Nat) : Int) []) := l3VarsV_some s ((p : Nat) : Int) (n := 2) (by decide)
          have h4 := varsAtV_eq s 2 p [] hp
          simp only [outsP]
          cases hv : numsP 2 (s.drop p) with
          | none =>
            rw [hv] at h4
            obtain ⟨l, e, _⟩ := h4
            rw [iter_ret' (z := ((false, ()), (((0 : Int), ()), (([] : List WriteD), ())))) ?_ (by omega)]
            refine (eval_ite_t rfl).trans ((eval_get_some (x := ((n : Nat) : Int)) rfl).trans ((eval_ite_t w3).trans ((eval_get_some v4).trans ?_)))
            rw [e]; rfl
          | some x =>
            obtain ⟨v, k⟩ := x
            rw [hv] at h4
            have hle := numsP_le hv
            rw [List.length_drop] at hle
            obtain ⟨b, z, rfl⟩ := two_of hle.2.1
            have hz0 := (hle.2.2.1 z (by simp)).1
            have hz1 := (hle.2.2.1 z (by simp)).2
            obtain ⟨z, rfl⟩ := Int.eq_ofNat_of_zero_le hz0
            have h4 : varsAtV s 2 ((p : Nat) : Int) [] = ([b, ((z : Nat) : Int)], ((p + k : Nat) : Int)) := h4
            have g7 : (decide (((p + k : Nat) : Int) < 0) == false) = true := by rw [decide_eq_false (by omega)]; rfl
            have g9 : IntKind.i64.wrap (((s.length : Nat) : Int) - ((p + k : Nat) : Int)) = ((s.length : Nat) : Int) - ((p + k : Nat) : Int) := wrap_id (by omega) (by unfold BIG at hs; omega)
            dsimp only
            rw [Int.toNat_natCast, List.length_drop]
            by_cases hfit : k + z ≤ s.length - p
            · rw [if_pos hfit]
              obtain ⟨N, rfl⟩ : ∃ N', N = N' + 1 := ⟨N - 1, by omega⟩
              have g6 := wrap_succ (i := j) (by unfold BIG; omega)
              have g8 : ∀ w : WriteD, decide (out.length + ([w] : List WriteD).length ≤ LIM) = true := fun w => decide_eq_true (by rw [LIM_eq]; simp; omega)
              have g10 : decide (((z : Nat) : Int) > IntKind.i64.wrap (((s.length : Nat) : Int) - ((p + k : Nat) : Int))) = false := decide_eq_false (by rw [g9]; omega)
              have g11 : IntKind.i64.wrap (((p + k : Nat) : Int) + ((z : Nat) : Int)) = ((p + k + z : Nat) : Int) := by rw [wrap_id (by omega) (by unfold BIG at hs; omega)]; omega
              have g12 : decide (0 ≤ ((p + k : Nat) : Int) ∧ ((p + k : Nat) : Int) ≤ IntKind.i64.wrap (((p + k : Nat) : Int) + ((z : Nat) : Int)) ∧ IntKind.i64.wrap (((p + k : Nat) : Int) + ((z : Nat) : Int)) ≤ ((s.length : Nat) : Int)) = true := decide_eq_true (by rw [g11]; omega)
              have g13 : List.drop (Int.toNat ((p + k : Nat) : Int)) (List.take (Int.toNat (IntKind.i64.wrap (((p + k : Nat) : Int) + ((z : Nat) : Int)))) s) = ((s.drop p).drop k).take z := by
                rw [g11, Int.toNat_natCast, Int.toNat_natCast, List.drop_take, List.drop_drop, Nat.add_sub_cancel_left]
              rw [iter_again (x' := ((s, (((p + k + z : Nat) : Int), (((j + 1 : Nat) : Int), ()))), (((0 : Int), ()), ([q, ((n : Nat) : Int)], ((q, ()), (([] : List WriteD), (out ++ [(b, (((s.drop p).drop k).take z, ()))], ())))))))]
              · rw [ih (j + 1) (p + k + z) N (out ++ [(b, (((s.drop p).drop k).take z, ()))]) (by omega) (by omega) (by omega) (by simp; omega)]
                simp only [List.drop_drop, ← Nat.add_assoc]
                cases outsP m (s.drop (p + k + z)) with
                | none => rfl
                | some x => simp
              · refine (eval_ite_t rfl).trans ((eval_get_some (x := ((n : Nat) : Int)) rfl).trans ((eval_ite_t w3).trans ((eval_get_some v4).trans ?_)))
                rw [h4]
                refine (eval_ite_t g7).trans ((eval_ite_t rfl).trans ((eval_get_some (x := ((z : Nat) : Int)) rfl).trans ((eval_ite_f g10).trans ((eval_ite_t rfl).trans ((eval_get_some (x := b) rfl).trans ((eval_ite_t rfl).trans ((eval_get_some (x := ((z : Nat) : Int)) rfl).trans ((eval_ite_t g12).trans ((eval_ite_t (g8 _)).trans ((eval_ite_t rfl).trans ((eval_get_some (x := ((z : Nat) : Int)) rfl).trans ?_)))))))))))
                rw [← g6, ← g11, ← g13]; rfl
            · rw [if_neg hfit]
              have g10 : decide (((z : Nat) : Int) > IntKind.i64.wrap (((s.length : Nat) : Int) - ((p + k : Nat) : Int))) = true := decide_eq_true (by rw [g9]; omega)
              rw [iter_ret' (z := ((false, ()), (((0 : Int), ()), (([] : List WriteD), ())))) ?_ (by omega)]
              refine (eval_ite_t rfl).trans ((eval_get_some (x := ((n : Nat) : Int)) rfl).trans ((eval_ite_t w3).trans ((eval_get_some v4).trans ?_)))
              rw [h4]
              exact (eval_ite_t g7).trans ((eval_ite_t rfl).trans ((eval_get_some (x := ((z : Nat) : Int)) rfl).trans ((eval_ite_t g10).trans rfl)))
      have hk := key n 0 (5 + k) FUEL [] (by omega) (Nat.lt_of_le_of_lt (show n ≤ 6 by omega) (by decide)) (by omega) rfl
      refine (eval_get_some hk).trans ?_
      rw [List.drop_drop] at hr
      cases ho : outsP n (s.drop (5 + k)) with
      | none =>
        rw [ho] at hr
        rw [readTxnRV_none hr]; rfl
      | some x =>
        obtain ⟨l, k'⟩ := x
        rw [ho] at hr
        simp only [List.nil_append] at hr ⊢
        by_cases hsh : showTxnV q l = s
        · rw [if_pos hsh] at hr
          rw [readTxnRV_some hr]
          exact (eval_ite_f (by rw [hsh]; exact bne_self_eq_false s)).trans rfl
        · rw [if_neg hsh] at hr
          rw [readTxnRV_none hr]
          exact (eval_ite_t (by simpa using hsh)).trans rfl
def f171_tree (a0 : List UInt8) (a1 : Bool) (a2 : Int) : Out (((List UInt8 × Unit) × Unit) × ((List UInt8 × Bool × Unit) × Unit × Unit)) :=
 .ite (a1 == false)
 (.ite (decide (a2 > ((List.length a0 : Nat) : Int)))
 (.ret (((([] : List UInt8), ()), ()), ((a0, true, ()), (), ())))
 (.ite (decide (0 ≤ (0 : Int) ∧ (0 : Int) ≤ a2 ∧ a2 ≤ ((List.length a0 : Nat) : Int)))
 (.ite (decide (0 ≤ a2 ∧ a2 ≤ ((List.length a0 : Nat) : Int)))
 (.ret ((((List.drop (Int.toNat (0 : Int)) (List.take (Int.toNat a2) a0)), ()), ()), (((List.drop (Int.toNat a2) a0), a1, ()), (), ())))
 .fail)
 .fail))
 (.ret (((([] : List UInt8), ()), ()), ((a0, true, ()), (), ())))
def textV (s : Str) (bad : Bool) (n : Int) : Option (Str × Str × Bool) := if bad = true ∨ ((s.length : Nat) : Int) < n then some ([], s, true) else if 0 ≤ n then some (s.take n.toNat, s.drop n.toNat, false) else none
def k171 : Con := { f := 171, lend := true, its := [⟨true, false, [.s, .b]⟩, ⟨false, false, [.i .i64]⟩], lay := [none, none], rs := [⟨false, false, [.s]⟩], F := fun x => .get (textV x.1.1 x.1.2.1 x.2.1.1) fun y => .ret (((y.1, ()), ()), ((y.2.1, y.2.2, ()), (), ())) }
theorem f171_eq (x : itemsD k171.its) : bodyOut (cxOf []) (fun _ => none) (codeOf Try.f171) k171.its k171.lay Try.f171.ntmps k171.rs [.tmp 4] x = f171_tree x.1.1 x.1.2.1 x.2.1.1 := by kernel_rfl
theorem f171_okp (hr : ∀ x : (List UInt8 × Bool × Unit) × (Int × Unit) × Unit, itemsWF k171.its x → ∀ y, (k171.F x).eval = some y → (f171_tree x.1.1 x.1.2.1 x.2.1.1).eval = some y) : k171.Ok Try.prog :=
  con_fn [] trivial (by kernel_rfl) (codeOf_eq (by kernel_rfl)) (by kernel_rfl) (by kernel_rfl) (by kernel_rfl) f171_eq hr
theorem k171_ok : k171.Ok Try.prog := by
  refine f171_okp fun x _ y hy => ?_
  obtain ⟨⟨s, b, _⟩, ⟨n, _⟩, _⟩ := x
  change (Out.get (textV s b n) fun y => Out.ret (((y.1, ()), ()), ((y.2.1, (y.2.2, ())), ((), ())))).eval = some y at hy
  show (f171_tree s b n).eval = some y
  unfold textV at hy
  unfold f171_tree
  cases b
  · by_cases h : ((s.length : Nat) : Int) < n
    · rw [if_pos (.inr h)] at hy
      refine Eq.trans ?_ hy
      exact (eval_ite_t rfl).trans ((eval_ite_t (decide_eq_true h)).trans rfl)
    · rw [if_neg (by simpa using h)] at hy
      split at hy
      case isFalse => exact nomatch hy
      rename_i h0
      refine Eq.trans ?_ hy
      refine (eval_ite_t rfl).trans ((eval_ite_f (decide_eq_false h)).trans ((eval_ite_t (decide_eq_true (by omega))).trans ((eval_ite_t (decide_eq_true (by omega))).trans ?_)))
      simp [Out.eval]
  · rw [if_pos (.inl rfl)] at hy
    exact Eq.trans ((eval_ite_f rfl).trans rfl) hy
def f230_tree (a0 : List UInt8) (a1 : List UInt8) : Out (((Bool × Unit) × Unit) × (Unit × Unit × Unit)) :=
 .ite ((decide (((List.length a0 : Nat) : Int) ≥ ((List.length a1 : Nat) : Int))) == true)
 (.ite (decide (0 ≤ (0 : Int) ∧ (0 : Int) ≤ ((List.length a1 : Nat) : Int) ∧ ((List.length a1 : Nat) : Int) ≤ ((List.length a0 : Nat) : Int)))
 (.ret (((((List.drop (Int.toNat (0 : Int)) (List.take (Int.toNat ((List.length a1 : Nat) : Int)) a0)) == a1), ()), ()), ((), (), ())))
 .fail)
 (.ret (((false, ()), ()), ((), (), ())))
def hasPrefixV (a b : Str) : Bool := decide (b.length ≤ a.length) && (a.take b.length == b)
def k230 : Con := { f := 230, lend := true, its := [⟨false, false, [.s]⟩, ⟨false, false, [.s]⟩], lay := [none, none], rs := [⟨false, false, [.b]⟩], F := fun x => .ret ((((hasPrefixV x.1.1 x.2.1.1), ()), ()), ((), (), ())) }
theorem f230_eq (x : itemsD k230.its) : bodyOut (cxOf []) (fun _ => none) (codeOf Try.f230) k230.its k230.lay Try.f230.ntmps k230.rs [.tmp 4] x = f230_tree x.1.1 x.2.1.1 := by kernel_rfl
theorem f230_ok (hr : ∀ x : (List UInt8 × Unit) × (List UInt8 × Unit) × Unit, itemsWF k230.its x → (f230_tree x.1.1 x.2.1.1).eval = (k230.F x).eval) : k230.Ok Try.prog :=
  con_fn [] trivial (by kernel_rfl) (codeOf_eq (by kernel_rfl)) (by kernel_rfl) (by kernel_rfl) (by kernel_rfl) f230_eq fun x hw _ hy => (hr x hw).trans hy
theorem k230_ok : k230.Ok Try.prog := by
  refine f230_ok fun x _ => ?_
  obtain ⟨⟨a, _⟩, ⟨b, _⟩, _⟩ := x
  show (f230_tree a b).eval = some (((hasPrefixV a b, ()), ()), ((), ((), ())))
  unfold f230_tree hasPrefixV
  by_cases h : b.length ≤ a.length
  · have g : decide (((a.length : Nat) : Int) ≥ ((b.length : Nat) : Int)) = true := decide_eq_true (by omega)
    rw [g, decide_eq_true h]
    exact (eval_ite_t rfl).trans ((eval_ite_t (decide_eq_true (by omega))).trans rfl)
  · have g : decide (((a.length : Nat) : Int) ≥ ((b.length : Nat) : Int)) = false := decide_eq_false (by omega)
    rw [g, decide_eq_false h]
    exact (eval_ite_f rfl).trans rfl
def f212_tree (a0 : List UInt8) (a1 : List UInt8) : Out (((List UInt8 × Unit) × (Bool × Unit) × Unit) × (Unit × Unit × Unit)) :=
 .ite (!(hasPrefixV a0 a1))
 (.ret (((a0, ()), (false, ()), ()), ((), (), ())))
 (.ite (decide (0 ≤ ((List.length a1 : Nat) : Int) ∧ ((List.length a1 : Nat) : Int) ≤ ((List.length a0 : Nat) : Int)))
 (.ret ((((List.drop (Int.toNat ((List.length a1 : Nat) : Int)) a0), ()), (true, ()), ()), ((), (), ())))
 .fail)
def cutPrefixV (a b : Str) : Str × Bool := bif hasPrefixV a b then (a.drop b.length, true) else (a, false)
def k212 : Con := { f := 212, lend := true, its := [⟨false, false, [.s]⟩, ⟨false, false, [.s]⟩], lay := [none, none], rs := [⟨false, false, [.s]⟩, ⟨false, false, [.b]⟩], F := fun x => .ret ((((cutPrefixV x.1.1 x.2.1.1).1, ()), ((cutPrefixV x.1.1 x.2.1.1).2, ()), ()), ((), (), ())) }
theorem f212_eq (x : itemsD k212.its) : bodyOut (cxOf [k230]) (fun _ => none) (codeOf Try.f212) k212.its k212.lay Try.f212.ntmps k212.rs [.tmp 4, .tmp 5] x = f212_tree x.1.1 x.2.1.1 := by kernel_rfl
theorem f212_ok (hr : ∀ x : (List UInt8 × Unit) × (List UInt8 × Unit) × Unit, itemsWF k212.its x → (f212_tree x.1.1 x.2.1.1).eval = (k212.F x).eval) : k212.Ok Try.prog :=
  con_fn [k230] ⟨k230_ok, trivial⟩ (by kernel_rfl) (codeOf_eq (by kernel_rfl)) (by kernel_rfl) (by kernel_rfl) (by kernel_rfl) f212_eq fun x hw _ hy => (hr x hw).trans hy
theorem k212_ok : k212.Ok Try.prog := by
  refine f212_ok fun x _ => ?_
  obtain ⟨⟨a, _⟩, ⟨b, _⟩, _⟩ := x
  show (f212_tree a b).eval = some ((((cutPrefixV a b).1, ()), (((cutPrefixV a b).2, ()), ())), ((), ((), ())))
  unfold f212_tree cutPrefixV
  cases h : hasPrefixV a b
  · exact (eval_ite_t rfl).trans rfl
  · have : b.length ≤ a.length := of_decide_eq_true (Bool.and_eq_true_iff.1 h).1
    exact (eval_ite_f rfl).trans ((eval_ite_t (decide_eq_true (by omega))).trans rfl)
def f168_tree (a0 : List UInt8) (a1 : List UInt8) : Out (((List UInt8 × Unit) × (Bool × Unit) × Unit) × (Unit × Unit × Unit)) :=
 .ret ((((cutPrefixV a0 a1).1, ()), ((cutPrefixV a0 a1).2, ()), ()), ((), (), ()))
def k168 : Con := { f := 168, lend := true, its := [⟨false, false, [.s]⟩, ⟨false, false, [.s]⟩], lay := [none, none], rs := [⟨false, false, [.s]⟩, ⟨false, false, [.b]⟩], F := fun x => .ret ((((cutPrefixV x.1.1 x.2.1.1).1, ()), ((cutPrefixV x.1.1 x.2.1.1).2, ()), ()), ((), (), ())) }
theorem f168_eq (x : itemsD k168.its) : bodyOut (cxOf [k212]) (fun _ => none) (codeOf Try.f168) k168.its k168.lay Try.f168.ntmps k168.rs [.tmp 4, .tmp 5] x = f168_tree x.1.1 x.2.1.1 := by kernel_rfl
theorem f168_ok (hr : ∀ x : (List UInt8 × Unit) × (List UInt8 × Unit) × Unit, itemsWF k168.its x → (f168_tree x.1.1 x.2.1.1).eval = (k168.F x).eval) : k168.Ok Try.prog :=
  con_fn [k212] ⟨k212_ok, trivial⟩ (by kernel_rfl) (codeOf_eq (by kernel_rfl)) (by kernel_rfl) (by kernel_rfl) (by kernel_rfl) f168_eq fun x hw _ hy => (hr x hw).trans hy
theorem k168_ok : k168.Ok Try.prog := f168_ok fun _ _ => rfl
theorem cutPrefix_one (b : UInt8) (s : Str) (t : UInt8) : cutPrefixV (t :: s) [b] = if t = b then (s, true) else (t :: s, false) := by
  unfold cutPrefixV hasPrefixV
  have : decide (([b] : Str).length ≤ (t :: s).length) = true := decide_eq_true (by simp)
  rw [this, Bool.true_and]
  have e : ((t :: s).take ([b] : Str).length == [b]) = decide (t = b) := by
    rw [Bool.eq_iff_iff]; simp
  rw [e]
  by_cases h : t = b
  · rw [decide_eq_true h, if_pos h]; rfl
  · rw [decide_eq_false h, if_neg h]; rfl
def outsL : Nat → Str → Bool → List WriteD → Option (List WriteD × Str × Bool)
  | 0, s, b, p => some (p, s, b)
  | n + 1, s, b, p => match textV (numV (numV s b).2.1 (numV s b).2.2).2.1 (numV (numV s b).2.1 (numV s b).2.2).2.2 (numV (numV s b).2.1 (numV s b).2.2).1 with
    | none => none
    | some t => outsL n t.2.1 t.2.2 (p ++ [((numV s b).1, (t.1, ()))])
theorem outsL_bad : ∀ (n : Nat) (s : Str) (p : List WriteD), ∃ r, outsL n s true p = some r ∧ r.2.2 = true
  | 0, s, p => ⟨_, rfl, rfl⟩
  | n + 1, s, p => by
    have h : textV (numV (numV s true).2.1 (numV s true).2.2).2.1 (numV (numV s true).2.1 (numV s true).2.2).2.2 (numV (numV s true).2.1 (numV s true).2.2).1 = some ([], s, true) := rfl
    unfold outsL
    rw [h]
    exact outsL_bad n s _
theorem outsL_eq : ∀ (n : Nat) (s : Str) (p : List WriteD), match outsP n s with
    | some (l, k) => outsL n s false p = some (p ++ l, s.drop k, false)
    | none => ∃ r, outsL n s false p = some r ∧ r.2.2 = true
  | 0, s, p => by simp [outsP, outsL]
  | n + 1, s, p => by
    have h := numsV_eq 2 s
    have e : numsV 2 s false = ([(numV s false).1, (numV (numV s false).2.1 (numV s false).2.2).1], (numV (numV s false).2.1 (numV s false).2.2).2) := rfl
    simp only [outsP, outsL]
    cases hv : numsP 2 s with
    | none =>
      rw [hv] at h
      have h : (numV (numV s false).2.1 (numV s false).2.2).2.2 = true := h
      have ht : textV (numV (numV s false).2.1 (numV s false).2.2).2.1 (numV (numV s false).2.1 (numV s false).2.2).2.2 (numV (numV s false).2.1 (numV s false).2.2).1 = some ([], (numV (numV s false).2.1 (numV s false).2.2).2.1, true) := by rw [h]; exact if_pos (.inl rfl)
      rw [ht]
      exact outsL_bad n _ _
    | some x =>
      obtain ⟨v, k⟩ := x
      rw [hv] at h
      have hle := numsP_le hv
      obtain ⟨b, z, rfl⟩ := two_of hle.2.1
      have h : numsV 2 s false = ([b, z], s.drop k, false) := h
      rw [e] at h
      obtain ⟨h1, h2⟩ := Prod.mk.injEq .. ▸ h
      rw [List.cons.injEq, List.cons.injEq] at h1
      obtain ⟨h1, h3, _⟩ := h1
      rw [h2, h1, h3]
      have hz0 := (hle.2.2.1 z (by simp)).1
      simp only
      by_cases hfit : k + z.toNat ≤ s.length
      · have ht : textV (s.drop k) false z = some ((s.drop k).take z.toNat, (s.drop k).drop z.toNat, false) := by
          unfold textV
          rw [if_neg (by rw [List.length_drop]; simp; omega), if_pos hz0]
        rw [if_pos hfit, ht, List.drop_drop]
        have ih := outsL_eq n (s.drop (k + z.toNat)) (p ++ [(b, ((s.drop k).take z.toNat, ()))])
        cases hr : outsP n (s.drop (k + z.toNat)) with
        | none => rw [hr] at ih; exact ih
        | some x =>
          obtain ⟨l, k'⟩ := x
          rw [hr] at ih
          simp only at ih ⊢
          rw [ih]
          simp [Nat.add_assoc]
      · have ht : textV (s.drop k) false z = some ([], s.drop k, true) := by
          unfold textV
          rw [if_pos (.inr (by rw [List.length_drop]; omega))]
        rw [if_neg hfit, ht]
        exact outsL_bad n _ _

theorem showTxn_drop {q : Int} {a : List WriteD} {s : Str} (h : showTxnV q a = s) (hs : s ≠ []) : s.drop 4 = 116 :: (varV q ++ (varV ((a.length : Nat) : Int) ++ a.flatMap outS)) := by
  have hok : txnOkV q a = true := by
    cases hb : txnOkV q a with
    | true => rfl
    | false => rw [showTxnV_nil.2 hb] at h; exact absurd h.symm hs
  rw [← h, showTxnV_ok hok, List.drop_left' (sumS_len _)]
  unfold txnS
  simp
abbrev f82_S0 := (List UInt8 × Int × Int × Unit) × ((Int × Unit) × (List UInt8 × Bool × Unit) × (Int × Unit) × List ((Int × List UInt8 × Unit)) × List ((Int × List UInt8 × Unit)) × Unit)
def f82_L0 (x : f82_S0) : Out (Round f82_S0 ((List UInt8 × Unit) × ((Int × Unit) × (List UInt8 × Bool × Unit) × (Int × Unit) × List ((Int × List UInt8 × Unit)) × List ((Int × List UInt8 × Unit)) × Unit)) Empty) :=
 .ite (decide (x.1.2.2.1 < x.1.2.1))
 (.get (textV (numV (numV x.2.2.1.1 x.2.2.1.2.1).2.1 (numV x.2.2.1.1 x.2.2.1.2.1).2.2).2.1 (numV (numV x.2.2.1.1 x.2.2.1.2.1).2.1 (numV x.2.2.1.1 x.2.2.1.2.1).2.2).2.2 (numV (numV x.2.2.1.1 x.2.2.1.2.1).2.1 (numV x.2.2.1.1 x.2.2.1.2.1).2.2).1) fun y1 =>
 .ite (decide (List.length x.2.2.2.2.2.1 + List.length ([((numV x.2.2.1.1 x.2.2.1.2.1).1, y1.1, ())] : List ((Int × List UInt8 × Unit))) ≤ LIM))
 (.ret (.again ((x.1.1, x.1.2.1, (IntKind.i64.wrap (x.1.2.2.1 + (1 : Int))), ()), ((x.2.1.1, ()), (y1.2.1, y1.2.2, ()), (x.2.2.2.1.1, ()), x.2.2.2.2.1, (x.2.2.2.2.2.1 ++ ([((numV x.2.2.1.1 x.2.2.1.2.1).1, y1.1, ())] : List ((Int × List UInt8 × Unit)))), ()))))
 .fail)
 (.ret (.out ((x.1.1, ()), ((x.2.1.1, ()), (x.2.2.1.1, x.2.2.1.2.1, ()), (x.2.2.2.1.1, ()), x.2.2.2.2.1, x.2.2.2.2.2.1, ()))))
def f82_tree (a0 : List UInt8) : Out (((Int × List (Int × List UInt8 × Unit) × Unit) × (Bool × Unit) × Unit) × (Unit × Unit)) :=
 .ite (decide (((List.length a0 : Nat) : Int) < (5 : Int)))
 (.ret ((((0 : Int), ([] : List ((Int × List UInt8 × Unit))), ()), (false, ()), ()), ((), ())))
 (.ite (decide (0 ≤ (4 : Int) ∧ (4 : Int) ≤ ((List.length a0 : Nat) : Int)))
 (.get (iter1 f82_L0 FUEL ((a0, (manyV (numV (cutPrefixV (List.drop (Int.toNat (4 : Int)) a0) ([116] : List UInt8)).1 (!(cutPrefixV (List.drop (Int.toNat (4 : Int)) a0) ([116] : List UInt8)).2)).2.1 (numV (cutPrefixV (List.drop (Int.toNat (4 : Int)) a0) ([116] : List UInt8)).1 (!(cutPrefixV (List.drop (Int.toNat (4 : Int)) a0) ([116] : List UInt8)).2)).2.2 (6 : Int)).1, (0 : Int), ()), (((0 : Int), ()), ((manyV (numV (cutPrefixV (List.drop (Int.toNat (4 : Int)) a0) ([116] : List UInt8)).1 (!(cutPrefixV (List.drop (Int.toNat (4 : Int)) a0) ([116] : List UInt8)).2)).2.1 (numV (cutPrefixV (List.drop (Int.toNat (4 : Int)) a0) ([116] : List UInt8)).1 (!(cutPrefixV (List.drop (Int.toNat (4 : Int)) a0) ([116] : List UInt8)).2)).2.2 (6 : Int)).2.1, (manyV (numV (cutPrefixV (List.drop (Int.toNat (4 : Int)) a0) ([116] : List UInt8)).1 (!(cutPrefixV (List.drop (Int.toNat (4 : Int)) a0) ([116] : List UInt8)).2)).2.1 (numV (cutPrefixV (List.drop (Int.toNat (4 : Int)) a0) ([116] : List UInt8)).1 (!(cutPrefixV (List.drop (Int.toNat (4 : Int)) a0) ([116] : List UInt8)).2)).2.2 (6 : Int)).2.2, ()), ((numV (cutPrefixV (List.drop (Int.toNat (4 : Int)) a0) ([116] : List UInt8)).1 (!(cutPrefixV (List.drop (Int.toNat (4 : Int)) a0) ([116] : List UInt8)).2)).1, ()), ([] : List ((Int × List UInt8 × Unit))), ([] : List ((Int × List UInt8 × Unit))), ()))) fun y1 =>
 .ite (y1.2.2.1.2.1 == false)
 (.ite ((y1.2.2.1.1 != ([] : List UInt8)) == false)
 (.ite ((showTxnV y1.2.2.2.1.1 y1.2.2.2.2.2.1) != y1.1.1)
 (.ret ((((0 : Int), ([] : List ((Int × List UInt8 × Unit))), ()), (false, ()), ()), ((), ())))
 (.ret (((y1.2.2.2.1.1, y1.2.2.2.2.2.1, ()), (true, ()), ()), ((), ()))))
 (.ret ((((0 : Int), ([] : List ((Int × List UInt8 × Unit))), ()), (false, ()), ()), ((), ()))))
 (.ret ((((0 : Int), ([] : List ((Int × List UInt8 × Unit))), ()), (false, ()), ()), ((), ()))))
 .fail)
def f82_A : Nat → Option LoopAnn := fun n => annOf [(0, { head := { t := [.s, .dead, .vptr 64000000 0, .dead, .dead, .dead, .vptr 64000001 0, .vptr 64000002 0, .dead, .dead, .dead, .dead, .dead, .dead, .dead, .dead, .dead, .dead, .dead, .dead, .dead, .dead, .dead, .dead, .dead, .dead, .dead, .dead, .dead, .i .i64, .i .i64, .dead, .dead, .dead, .dead, .dead, .dead, .dead, .dead, .dead, .dead, .dead, .dead, .dead, .dead, .dead, .dead, .dead, .dead, .dead, .dead, .dead, .dead, .dead, .dead, .dead, .dead, .dead, .dead, .dead, .dead, .dead, .dead, .dead, .dead, .dead], v := [(64000000, .var [.i .i64, .srf 64000003]), (64000001, .var [.s, .b]), (64000002, .var [.i .i64, .srf 64000004]), (64000003, .arr (.st (.cons (.int .i64) (.cons .str .nil)))), (64000004, .arr (.st (.cons (.int .i64) (.cons .str .nil))))] }, out := { t := [.s, .dead, .vptr 64000256 0, .dead, .dead, .dead, .vptr 64000257 0, .vptr 64000258 0, .dead, .dead, .dead, .dead, .dead, .dead, .dead, .dead, .dead, .dead, .dead, .dead, .dead, .dead, .dead, .dead, .dead, .dead, .dead, .dead, .dead, .dead, .dead, .dead, .dead, .dead, .dead, .dead, .dead, .dead, .dead, .dead, .dead, .dead, .dead, .dead, .dead, .dead, .dead, .dead, .dead, .dead, .dead, .dead, .dead, .dead, .dead, .dead, .dead, .dead, .dead, .dead, .dead, .dead, .dead, .dead, .dead, .dead], v := [(64000256, .var [.i .i64, .srf 64000259]), (64000257, .var [.s, .b]), (64000258, .var [.i .i64, .srf 64000260]), (64000259, .arr (.st (.cons (.int .i64) (.cons .str .nil)))), (64000260, .arr (.st (.cons (.int .i64) (.cons .str .nil))))] }, ret := none })] n
def k82 : Con := { f := 82, lend := true, its := [⟨false, false, [.s]⟩], lay := [none], rs := [⟨false, true, [.i .i64, .own (.st (.cons (.int .i64) (.cons .str .nil)))]⟩, ⟨false, false, [.b]⟩], F := fun x => .ret ((((readTxnRV x.1.1).1, (readTxnRV x.1.1).2.1, ()), ((readTxnRV x.1.1).2.2, ()), ()), ((), ())) }
theorem f82_eq (x : itemsD k82.its) : bodyOut (cxOf [k168, k169, k170, k171, k43]) (f82_A) (codeOf Try.f82) k82.its k82.lay Try.f82.ntmps k82.rs [.cell 2 54, .tmp 3] x = f82_tree x.1.1 := by kernel_rfl
theorem f82_ok (hr : ∀ x : (List UInt8 × Unit) × Unit, itemsWF k82.its x → (f82_tree x.1.1).eval = (k82.F x).eval) : k82.Ok Try.prog :=
  con_fn [k168, k169, k170, k171, k43] ⟨k168_ok, k169_ok, k170_ok, k171_ok, k43_ok, trivial⟩ (by kernel_rfl) (codeOf_eq (by kernel_rfl)) (by kernel_rfl) (by kernel_rfl) (by kernel_rfl) f82_eq fun x hw _ hy => (hr x hw).trans hy
theorem k82_ok : k82.Ok Try.prog := by
  refine f82_ok fun x hw => ?_
  obtain ⟨⟨s, _⟩, _⟩ := x
  have hs : s.length ≤ BIG := hw.1.1
  show (f82_tree s).eval = some ((((readTxnRV s).1, ((readTxnRV s).2.1, ())), (((readTxnRV s).2.2, ()), ())), ((), ()))
  unfold f82_tree
  by_cases h5 : s.length < 5
  · rw [eval_ite_t (decide_eq_true (by omega)), readTxnRV_none (readTxnV_short h5)]; rfl
  rw [eval_ite_f (decide_eq_false (by omega)), eval_ite_t (decide_eq_true (by omega))]
  obtain ⟨t, ht⟩ : ∃ t, s.drop 4 = t :: s.drop 5 := ⟨_, List.drop_eq_getElem_cons (by omega)⟩
  have hne : s ≠ [] := by rintro rfl; simp at h5
  have hc : cutPrefixV (List.drop (Int.toNat (4 : Int)) s) [116] = if t = 116 then (s.drop 5, true) else (t :: s.drop 5, false) := by
    show cutPrefixV (s.drop 4) [116] = _
    rw [ht]; exact cutPrefix_one 116 _ t
  rw [hc]
  have key : ∀ (n : Nat) (q : Int) (m j N : Nat) (r : Str) (b : Bool) (out : List WriteD) (w : List WriteD × Str × Bool), j + m = n → n ≤ 6 → m < N → out.length = j → outsL m r b out = some w →
      iter1 f82_L0 N ((s, (((n : Nat) : Int), (((j : Nat) : Int), ()))), (((0 : Int), ()), ((r, (b, ())), ((q, ()), (([] : List WriteD), (out, ())))))) = some ((s, ()), (((0 : Int), ()), ((w.2.1, (w.2.2, ())), ((q, ()), (([] : List WriteD), (w.1, ())))))) := by
    intro n q m
    induction m with
    | zero =>
      intro j N r b out w hj _ hN ho hw'
      obtain rfl := Option.some.inj hw'
      have w3 : decide (((j : Nat) : Int) < ((n : Nat) : Int)) = false := decide_eq_false (by omega)
      refine iter1_out' ?_ hN
      exact (eval_ite_f w3).trans rfl
    | succ m ih =>
      intro j N r b out w hj h6 hN ho hw'
      have w3 : decide (((j : Nat) : Int) < ((n : Nat) : Int)) = true := decide_eq_true (by omega)
      have g6 := wrap_succ (i := j) (by unfold BIG; omega)
      have g8 : ∀ z : WriteD, decide (out.length + ([z] : List WriteD).length ≤ LIM) = true := fun z => decide_eq_true (by rw [LIM_eq]; simp; omega)
      obtain ⟨N, rfl⟩ : ∃ N', N = N' + 1 := ⟨N - 1, by omega⟩
      unfold outsL at hw'
      split at hw'
      · exact nomatch hw'
      · rename_i u hu
        rw [iter1_again (x' := ((s, (((n : Nat) : Int), (((j + 1 : Nat) : Int), ()))), (((0 : Int), ()), ((u.2.1, (u.2.2, ())), ((q, ()), (([] : List WriteD), (out ++ [((numV r b).1, (u.1, ()))], ())))))))]
        · exact ih (j + 1) N _ _ _ w (by omega) h6 (by omega) (by simp; omega) hw'
        · rw [← g6]
          exact (eval_ite_t w3).trans ((eval_get_some hu).trans ((eval_ite_t (g8 _)).trans rfl))
  have fin : ∀ (n : Nat) (q : Int) (r : Str) (b : Bool) (w : List WriteD × Str × Bool), n ≤ 6 → outsL n r b [] = some w →
      (Out.get (iter1 f82_L0 FUEL ((s, (((n : Nat) : Int), ((0 : Int), ()))), (((0 : Int), ()), ((r, (b, ())), ((q, ()), (([] : List WriteD), (([] : List WriteD), ()))))))) fun y1 =>
       .ite (y1.2.2.1.2.1 == false)
       (.ite ((y1.2.2.1.1 != ([] : List UInt8)) == false)
       (.ite ((showTxnV y1.2.2.2.1.1 y1.2.2.2.2.2.1) != y1.1.1)
       (.ret ((((0 : Int), ([] : List ((Int × List UInt8 × Unit))), ()), (false, ()), ()), ((), ())))
       (.ret (((y1.2.2.2.1.1, y1.2.2.2.2.2.1, ()), (true, ()), ()), ((), ()))))
       (.ret ((((0 : Int), ([] : List ((Int × List UInt8 × Unit))), ()), (false, ()), ()), ((), ()))))
       (.ret ((((0 : Int), ([] : List ((Int × List UInt8 × Unit))), ()), (false, ()), ()), ((), ()))) : Out (((Int × (List WriteD × Unit)) × ((Bool × Unit) × Unit)) × (Unit × Unit))).eval =
      some (if w.2.2 = false ∧ w.2.1 = [] ∧ showTxnV q w.1 = s then (((q, (w.1, ())), ((true, ()), ())), ((), ())) else ((((0 : Int), (([] : List WriteD), ())), ((false, ()), ())), ((), ()))) := by
    intro n q r b w h6 hw'
    have hk := key n q n 0 FUEL r b [] w (by omega) h6 (Nat.lt_of_le_of_lt h6 (by decide)) rfl hw'
    refine (eval_get_some hk).trans ?_
    obtain ⟨l, z, c⟩ := w
    dsimp only
    cases c
    · by_cases hz : z = []
      · by_cases hsh : showTxnV q l = s
        · rw [if_pos ⟨rfl, hz, hsh⟩]
          exact (eval_ite_t rfl).trans ((eval_ite_t (by rw [hz]; rfl)).trans ((eval_ite_f (by rw [hsh]; exact bne_self_eq_false s)).trans rfl))
        · rw [if_neg (fun q => hsh q.2.2)]
          exact (eval_ite_t rfl).trans ((eval_ite_t (by rw [hz]; rfl)).trans ((eval_ite_t (by simpa using hsh)).trans rfl))
      · rw [if_neg (fun q => hz q.2.1)]
        exact (eval_ite_t rfl).trans ((eval_ite_f (by simpa using hz)).trans rfl)
    · rw [if_neg (fun q => nomatch q.1)]
      exact (eval_ite_f rfl).trans rfl
  by_cases h116 : t = 116
  · rw [if_pos h116]
    have h := numsV_eq 2 (s.drop 5)
    have e : numsV 2 (s.drop 5) false = ([(numV (s.drop 5) false).1, (numV (numV (s.drop 5) false).2.1 (numV (s.drop 5) false).2.2).1], (numV (numV (s.drop 5) false).2.1 (numV (s.drop 5) false).2.2).2) := rfl
    have bad : ∀ (M : Int × Str × Bool) (q : Int), manyV (numV (s.drop 5) false).2.1 (numV (s.drop 5) false).2.2 6 = M → M.2.2 = true → readTxnV s = none →
        ∃ w, outsL M.1.toNat M.2.1 M.2.2 [] = some w ∧ w.2.2 = true := fun M q _ h2 _ => by rw [h2]; exact outsL_bad _ _ _
    have hm := manyV_le (numV (s.drop 5) false).2.1 (numV (s.drop 5) false).2.2 6 (by omega)
    obtain ⟨n, hn⟩ := Int.eq_ofNat_of_zero_le hm.1
    have no : ∀ w, outsL n (manyV (numV (s.drop 5) false).2.1 (numV (s.drop 5) false).2.2 6).2.1 (manyV (numV (s.drop 5) false).2.1 (numV (s.drop 5) false).2.2 6).2.2 [] = some w → ¬ (w.2.2 = false ∧ w.2.1 = [] ∧ showTxnV (numV (s.drop 5) false).1 w.1 = s) → readTxnV s = none →
        (f82_tree s).eval = some ((((readTxnRV s).1, ((readTxnRV s).2.1, ())), (((readTxnRV s).2.2, ()), ())), ((), ())) → True := fun _ _ _ _ _ => trivial
    show (Out.get (iter1 f82_L0 FUEL ((s, ((manyV (numV (s.drop 5) false).2.1 (numV (s.drop 5) false).2.2 6).1, ((0 : Int), ()))), (((0 : Int), ()), (((manyV (numV (s.drop 5) false).2.1 (numV (s.drop 5) false).2.2 6).2.1, ((manyV (numV (s.drop 5) false).2.1 (numV (s.drop 5) false).2.2 6).2.2, ())), (((numV (s.drop 5) false).1, ()), (([] : List WriteD), (([] : List WriteD), ()))))))) _).eval = _
    rw [hn]
    cases hv : numsP 2 (s.drop 5) with
    | none =>
      rw [hv] at h
      have h : (numV (numV (s.drop 5) false).2.1 (numV (s.drop 5) false).2.2).2.2 = true := h
      have hM : (manyV (numV (s.drop 5) false).2.1 (numV (s.drop 5) false).2.2 6).2.2 = true := by
        unfold manyV; split
        · rfl
        · exact h
      rw [hM]
      obtain ⟨w, hw1, hw2⟩ := outsL_bad n (manyV (numV (s.drop 5) false).2.1 (numV (s.drop 5) false).2.2 6).2.1 []
      refine (fin n _ _ _ w (by omega) hw1).trans ?_
      rw [if_neg (fun q => by rw [hw2] at q; exact nomatch q.1), readTxnRV_none (by unfold readTxnV txnP; rw [hv])]
    | some x =>
      obtain ⟨v, k⟩ := x
      rw [hv] at h
      have hle := numsP_le hv
      rw [List.length_drop] at hle
      obtain ⟨q, c, rfl⟩ := two_of hle.2.1
      have h : numsV 2 (s.drop 5) false = ([q, c], (s.drop 5).drop k, false) := h
      rw [e] at h
      obtain ⟨h1, h2⟩ := Prod.mk.injEq .. ▸ h
      rw [List.cons.injEq, List.cons.injEq] at h1
      obtain ⟨h1, h3, _⟩ := h1
      have hc0 := (hle.2.2.1 c (by simp)).1
      have hr : readTxnV s = if c > 6 then none else match outsP c.toNat ((s.drop 5).drop k) with
          | none => none
          | some (l, _) => if showTxnV q l = s then some (q, l) else none := by
        unfold readTxnV txnP
        rw [hv]
        by_cases h6 : c > 6
        · rw [if_pos h6]; simp only; rw [if_pos h6]
        · rw [if_neg h6]; simp only; rw [if_neg h6]
          cases outsP c.toNat ((s.drop 5).drop k) <;> rfl
      by_cases h6 : c > 6
      · have hM : (manyV (numV (s.drop 5) false).2.1 (numV (s.drop 5) false).2.2 6).2.2 = true := by
          unfold manyV; rw [h3, if_pos h6]
        rw [hM]
        obtain ⟨w, hw1, hw2⟩ := outsL_bad n (manyV (numV (s.drop 5) false).2.1 (numV (s.drop 5) false).2.2 6).2.1 []
        refine (fin n _ _ _ w (by omega) hw1).trans ?_
        rw [if_pos h6] at hr
        rw [if_neg (fun q => by rw [hw2] at q; exact nomatch q.1), readTxnRV_none hr]
      · rw [if_neg h6] at hr
        have hM : manyV (numV (s.drop 5) false).2.1 (numV (s.drop 5) false).2.2 6 = (c, (s.drop 5).drop k, false) := by
          unfold manyV; rw [h3, if_neg h6]
          exact Prod.ext h3 h2
        rw [hM] at hn ⊢
        have hn : c = ((n : Nat) : Int) := hn
        subst hn
        rw [Int.toNat_natCast] at hr
        have ho := outsL_eq n ((s.drop 5).drop k) []
        rw [h1]
        cases hp : outsP n ((s.drop 5).drop k) with
        | none =>
          rw [hp] at ho hr
          obtain ⟨w, hw1, hw2⟩ := ho
          refine (fin n _ _ _ w (by omega) hw1).trans ?_
          rw [if_neg (fun q => by rw [hw2] at q; exact nomatch q.1), readTxnRV_none hr]
        | some y =>
          obtain ⟨l, k'⟩ := y
          rw [hp] at ho hr
          have ho : outsL n ((s.drop 5).drop k) false [] = some (l, ((s.drop 5).drop k).drop k', false) := ho
          refine (fin n _ _ _ _ (by omega) ho).trans ?_
          simp only at hr
          by_cases hsh : showTxnV q l = s
          · have hole := outsP_le hp
            have hd := showTxn_drop hsh hne
            rw [ht] at hd
            have hd := (List.cons.inj hd).2
            have hz : ((s.drop 5).drop k).drop k' = [] := by
              have e1 : (varV q ++ varV ((n : Nat) : Int)).length = k := by
                have := congrArg List.length hle.2.2.2
                rw [List.length_take, List.length_drop] at this
                simp only [List.flatMap_cons, List.flatMap_nil, List.append_nil] at this
                omega
              have e2 : (l.flatMap outS).length = k' := by
                have := congrArg List.length hole.2.2
                rw [List.length_take] at this
                omega
              rw [List.drop_drop, List.drop_eq_nil_iff, hd, hole.2.1]
              simp only [List.length_append] at e1 ⊢
              omega
            rw [if_pos hsh] at hr
            rw [if_pos ⟨rfl, hz, hsh⟩, readTxnRV_some hr]
          · rw [if_neg hsh] at hr
            rw [if_neg (fun q => hsh q.2.2), readTxnRV_none hr]
  · rw [if_neg h116]
    have hr : readTxnV s = none := by
      cases hr : readTxnV s with
      | none => rfl
      | some z =>
        obtain ⟨q, a⟩ := z
        have hd := showTxn_drop (readTxn_is hr) hne
        rw [ht] at hd
        exact absurd (List.cons.inj hd).1 h116
    rw [readTxnRV_none hr]
    refine (fin 0 0 (t :: s.drop 5) true ([], t :: s.drop 5, true) (by omega) rfl).trans ?_
    rw [if_neg (fun q => nomatch q.1)]
def f83_tree (a0 : Int) (a1 : List (Int × List UInt8 × Unit)) (a2 : Int) : Out (((Int × Unit) × Unit) × ((List (Int × List UInt8 × Unit) × Unit) × Unit × Unit)) :=
 .ret ((((markWriteSV a1 a2).1, ()), ()), (((markWriteSV a1 a2).2, ()), (), ()))
def markTxnV (_q : Int) (a : List WriteD) (k : Int) : Int × List WriteD := markWriteSV a k
def k83 : Con := { f := 83, lend := true, its := [⟨false, true, [.i .i64, .mut (.st (.cons (.int .i64) (.cons .str .nil)))]⟩, ⟨false, false, [.i .i64]⟩], lay := [none, none], rs := [⟨false, false, [.i .i64]⟩], F := fun x => .ret ((((markTxnV x.1.1 x.1.2.1 x.2.1.1).1, ()), ()), (((markTxnV x.1.1 x.1.2.1 x.2.1.1).2, ()), (), ())) }
theorem f83_eq (x : itemsD k83.its) : bodyOut (cxOf [k69]) (fun _ => none) (codeOf Try.f83) k83.its k83.lay Try.f83.ntmps k83.rs [.tmp 4] x = f83_tree x.1.1 x.1.2.1 x.2.1.1 := by kernel_rfl
theorem f83_ok (hr : ∀ x : (Int × List (Int × List UInt8 × Unit) × Unit) × (Int × Unit) × Unit, itemsWF k83.its x → (f83_tree x.1.1 x.1.2.1 x.2.1.1).eval = (k83.F x).eval) : k83.Ok Try.prog :=
  con_fn [k69] ⟨k69_ok, trivial⟩ (by kernel_rfl) (codeOf_eq (by kernel_rfl)) (by kernel_rfl) (by kernel_rfl) (by kernel_rfl) f83_eq fun x hw _ hy => (hr x hw).trans hy
theorem k83_ok : k83.Ok Try.prog := f83_ok fun _ _ => rfl
def f84_tree (a0 : Int) (a1 : List (Int × List UInt8 × Unit)) (a2 : Int) : Out (((Int × Unit) × Unit) × (Unit × Unit × Unit)) :=
 .ite (decide ((heldWriteSV a1 a2) < (0 : Int)))
 (.ret ((((-1 : Int), ()), ()), ((), (), ())))
 (.ret ((((heldWriteSV a1 a2), ()), ()), ((), (), ())))
def heldTxnV (_q : Int) (a : List WriteD) (k : Int) : Int := thenV (heldWriteSV a k) (heldWriteSV a k)
def k84 : Con := { f := 84, lend := true, its := [⟨false, true, [.i .i64, .ro (.st (.cons (.int .i64) (.cons .str .nil)))]⟩, ⟨false, false, [.i .i64]⟩], lay := [none, none], rs := [⟨false, false, [.i .i64]⟩], F := fun x => .ret ((((heldTxnV x.1.1 x.1.2.1 x.2.1.1), ()), ()), ((), (), ())) }
theorem f84_eq (x : itemsD k84.its) : bodyOut (cxOf [k113]) (fun _ => none) (codeOf Try.f84) k84.its k84.lay Try.f84.ntmps k84.rs [.tmp 4] x = f84_tree x.1.1 x.1.2.1 x.2.1.1 := by kernel_rfl
theorem f84_ok (hr : ∀ x : (Int × List (Int × List UInt8 × Unit) × Unit) × (Int × Unit) × Unit, itemsWF k84.its x → (f84_tree x.1.1 x.1.2.1 x.2.1.1).eval = (k84.F x).eval) : k84.Ok Try.prog :=
  con_fn [k113] ⟨k113_ok, trivial⟩ (by kernel_rfl) (codeOf_eq (by kernel_rfl)) (by kernel_rfl) (by kernel_rfl) (by kernel_rfl) f84_eq fun x hw _ hy => (hr x hw).trans hy
theorem k84_ok : k84.Ok Try.prog := by
  refine f84_ok fun x _ => ?_
  obtain ⟨⟨q, a, _⟩, ⟨k, _⟩, _⟩ := x
  show (f84_tree q a k).eval = some (((heldTxnV q a k, ()), ()), ((), ((), ())))
  unfold f84_tree heldTxnV thenV
  by_cases h : heldWriteSV a k < 0 <;> simp [Out.eval, h]
theorem readTxnRV_len (s : Str) : (readTxnRV s).2.1.length ≤ 6 := by
  unfold readTxnRV
  split
  · rename_i q a h
    have e := readTxn_is h
    by_cases hok : txnOkV q a = true
    · exact (txnOkV_parts hok).2.1.2
    · have := showTxnV_nil.2 (Bool.eq_false_iff.2 hok)
      rw [this] at e
      subst e
      rw [readTxnV_short (by simp)] at h
      exact nomatch h
  · simp
end Go.Proofs.Ytjcinikojcfebaa.Dm
