/- Functions of the program, and what they compute. -/
import Derived.Test.YtjcinikojcfebaaA1
namespace Go.Proofs.Ytjcinikojcfebaa.Dm
open Go Go.ChangeShapes Go.WideShapes Go.ChangeAt Go.RowKit

/-! ## How much there is -/
/-- What is left of a measure. -/
def lessV (left : Int) (n : Nat) : Int := if IntKind.i64.wrap (left - ((n : Nat) : Int)) < 0 then -1 else IntKind.i64.wrap (left - ((n : Nat) : Int))
/-- A measure of at most 'm' that is not used up bounds what was measured. -/
theorem lessV_le {left : Int} {n m : Nat} (hm : m ≤ 4611686018427387904) (h0 : -1 ≤ left) (h1 : left ≤ m) (hn : n ≤ BIG) (h : ¬ lessV left n < 0) : n ≤ m ∧ 0 ≤ lessV left n ∧ lessV left n ≤ m ∧ lessV left n + n = left := by
  unfold lessV at h ⊢
  unfold BIG at hn
  have hw : IntKind.i64.wrap (left - ((n : Nat) : Int)) = left - n := by
    rw [IntKind.wrap_i64]; omega
  rw [hw] at h ⊢
  split at h
  · omega
  · rename_i hlt
    rw [if_neg hlt]
    omega
theorem lessV_bound {left : Int} {n m : Nat} (hm : m ≤ 4611686018427387904) (h0 : -1 ≤ left) (h1 : left ≤ m) (hn : n ≤ BIG) : -1 ≤ lessV left n ∧ lessV left n ≤ m := by
  by_cases h : lessV left n < 0
  · unfold lessV at h ⊢
    split at h
    · rename_i hlt; rw [if_pos hlt]; omega
    · omega
  · have := lessV_le hm h0 h1 hn h
    omega

def f118_tree (a0 : List Int) (a1 : Int) : Out (((Int × Unit) × Unit) × (Unit × Unit × Unit)) :=
 .ite (decide ((IntKind.i64.wrap (a1 - ((List.length a0 : Nat) : Int))) < (0 : Int)))
 (.ret ((((-1 : Int), ()), ()), ((), (), ())))
 (.ret ((((IntKind.i64.wrap (a1 - ((List.length a0 : Nat) : Int))), ()), ()), ((), (), ())))
def szIntSV (a : List Int) (left : Int) : Int := lessV left a.length
def k118 : Con := { f := 118, lend := true, its := [⟨false, false, [.ro (.int .i64)]⟩, ⟨false, false, [.i .i64]⟩], lay := [none, none], rs := [⟨false, false, [.i .i64]⟩], F := fun x => .ret ((((szIntSV x.1.1 x.2.1.1), ()), ()), ((), (), ())) }
theorem f118_eq (x : itemsD k118.its) : bodyOut (cxOf []) (fun _ => none) (codeOf Try.f118) k118.its k118.lay Try.f118.ntmps k118.rs [.tmp 4] x = f118_tree x.1.1 x.2.1.1 := by kernel_rfl
theorem f118_ok (hr : ∀ x : (List Int × Unit) × (Int × Unit) × Unit, itemsWF k118.its x → (f118_tree x.1.1 x.2.1.1).eval = (k118.F x).eval) : k118.Ok Try.prog :=
  con_fn [] trivial (by kernel_rfl) (codeOf_eq (by kernel_rfl)) (by kernel_rfl) (by kernel_rfl) (by kernel_rfl) f118_eq fun x hw _ hy => (hr x hw).trans hy
theorem k118_ok : k118.Ok Try.prog := by
  refine f118_ok fun x _ => ?_
  obtain ⟨⟨a, _⟩, ⟨k, _⟩, _⟩ := x
  show (f118_tree a k).eval = some (((szIntSV a k, ()), ()), ((), ((), ())))
  unfold f118_tree szIntSV lessV
  by_cases h : IntKind.i64.wrap (k - ((a.length : Nat) : Int)) < 0
  · rw [eval_ite_t (decide_eq_true h), if_pos h]; rfl
  · rw [eval_ite_f (decide_eq_false h), if_neg h]; rfl
def f117_tree (a0 : Int) (a1 : List Int) (a2 : Int) : Out (((Int × Unit) × Unit) × (Unit × Unit × Unit)) :=
 .ite (decide ((szIntSV a1 a2) < (0 : Int)))
 (.ret ((((-1 : Int), ()), ()), ((), (), ())))
 (.ret ((((szIntSV a1 a2), ()), ()), ((), (), ())))
/-- A step that is not gone on from when it is used up. -/
def thenV (x : Int) (y : Int) : Int := if x < 0 then -1 else y
def szCpuV (_pc : Int) (a : List Int) (left : Int) : Int := thenV (szIntSV a left) (szIntSV a left)
def k117 : Con := { f := 117, lend := true, its := [⟨false, true, [.i .i64, .ro (.int .i64)]⟩, ⟨false, false, [.i .i64]⟩], lay := [none, none], rs := [⟨false, false, [.i .i64]⟩], F := fun x => .ret ((((szCpuV x.1.1 x.1.2.1 x.2.1.1), ()), ()), ((), (), ())) }
theorem f117_eq (x : itemsD k117.its) : bodyOut (cxOf [k118]) (fun _ => none) (codeOf Try.f117) k117.its k117.lay Try.f117.ntmps k117.rs [.tmp 4] x = f117_tree x.1.1 x.1.2.1 x.2.1.1 := by kernel_rfl
theorem f117_ok (hr : ∀ x : (Int × List Int × Unit) × (Int × Unit) × Unit, itemsWF k117.its x → (f117_tree x.1.1 x.1.2.1 x.2.1.1).eval = (k117.F x).eval) : k117.Ok Try.prog :=
  con_fn [k118] ⟨k118_ok, trivial⟩ (by kernel_rfl) (codeOf_eq (by kernel_rfl)) (by kernel_rfl) (by kernel_rfl) (by kernel_rfl) f117_eq fun x hw _ hy => (hr x hw).trans hy
theorem k117_ok : k117.Ok Try.prog := by
  refine f117_ok fun x _ => ?_
  obtain ⟨⟨p, a, _⟩, ⟨k, _⟩, _⟩ := x
  show (f117_tree p a k).eval = some (((szCpuV p a k, ()), ()), ((), ((), ())))
  unfold f117_tree szCpuV thenV
  by_cases h : szIntSV a k < 0 <;> simp [Out.eval, h]
def f31_tree (a0 : Int) (a1 : List Int) (a2 : List Int) (a3 : List Int) (a4 : Int) : Out (((Int × Unit) × Unit) × (Unit × Unit × Unit)) :=
 .ite (decide ((szCpuV a0 a1 a4) < (0 : Int)))
 (.ret ((((-1 : Int), ()), ()), ((), (), ())))
 (.ite (decide ((szIntSV a2 (szCpuV a0 a1 a4)) < (0 : Int)))
 (.ret ((((-1 : Int), ()), ()), ((), (), ())))
 (.ite (decide ((szIntSV a3 (szIntSV a2 (szCpuV a0 a1 a4))) < (0 : Int)))
 (.ret ((((-1 : Int), ()), ()), ((), (), ())))
 (.ret ((((szIntSV a3 (szIntSV a2 (szCpuV a0 a1 a4))), ()), ()), ((), (), ())))))
def szViewV (p : Int) (a b c : List Int) (left : Int) : Int := thenV (szCpuV p a left) (thenV (szIntSV b (szCpuV p a left)) (thenV (szIntSV c (szIntSV b (szCpuV p a left))) (szIntSV c (szIntSV b (szCpuV p a left)))))
def k31 : Con := { f := 31, lend := true, its := [⟨false, true, [.i .i64, .ro (.int .i64), .ro (.int .i64), .ro (.int .i64)]⟩, ⟨false, false, [.i .i64]⟩], lay := [none, none], rs := [⟨false, false, [.i .i64]⟩], F := fun x => .ret ((((szViewV x.1.1 x.1.2.1 x.1.2.2.1 x.1.2.2.2.1 x.2.1.1), ()), ()), ((), (), ())) }
theorem f31_eq (x : itemsD k31.its) : bodyOut (cxOf [k117, k118]) (fun _ => none) (codeOf Try.f31) k31.its k31.lay Try.f31.ntmps k31.rs [.tmp 4] x = f31_tree x.1.1 x.1.2.1 x.1.2.2.1 x.1.2.2.2.1 x.2.1.1 := by kernel_rfl
theorem f31_ok (hr : ∀ x : (Int × List Int × List Int × List Int × Unit) × (Int × Unit) × Unit, itemsWF k31.its x → (f31_tree x.1.1 x.1.2.1 x.1.2.2.1 x.1.2.2.2.1 x.2.1.1).eval = (k31.F x).eval) : k31.Ok Try.prog :=
  con_fn [k117, k118] ⟨k117_ok, k118_ok, trivial⟩ (by kernel_rfl) (codeOf_eq (by kernel_rfl)) (by kernel_rfl) (by kernel_rfl) (by kernel_rfl) f31_eq fun x hw _ hy => (hr x hw).trans hy
theorem k31_ok : k31.Ok Try.prog := by
  refine f31_ok fun x _ => ?_
  obtain ⟨⟨p, a, b, c, _⟩, ⟨k, _⟩, _⟩ := x
  show (f31_tree p a b c k).eval = some (((szViewV p a b c k, ()), ()), ((), ((), ())))
  unfold f31_tree szViewV thenV
  by_cases h : szCpuV p a k < 0
  · simp [Out.eval, h]
  · by_cases h2 : szIntSV b (szCpuV p a k) < 0
    · simp [Out.eval, h, h2]
    · by_cases h3 : szIntSV c (szIntSV b (szCpuV p a k)) < 0 <;> simp [Out.eval, h, h2, h3]

/-! ## Copies of what the law is given -/
def lim {α β : Type} (l : List α) (x : β) : Option β := if l.length ≤ LIM then some x else none
theorem lim_some {α β : Type} {l : List α} {x : β} (h : l.length ≤ LIM) : lim l x = some x := if_pos h
theorem lim_inv {α β : Type} {l : List α} {x y : β} (h : lim l x = some y) : l.length ≤ LIM ∧ y = x := by
  unfold lim at h
  split at h
  · exact ⟨‹_›, (Option.some.inj h).symm⟩
  · cases h
theorem lim_not {α β : Type} {l : List α} {x : β} (h : ¬ l.length ≤ LIM) : lim l x = none := if_neg h
abbrev f121_S0 := (List (Int) × Int × Unit) × (List (Int) × Unit)
def f121_L0 (x : f121_S0) : Out (Round f121_S0 ((Unit) × (List (Int) × Unit)) Empty) :=
 .ite (decide (x.1.2.1 < ((List.length x.1.1 : Nat) : Int)))
 (.ite (decide (0 ≤ x.1.2.1))
 (.get (nth x.1.1 (Int.toNat x.1.2.1)) fun y1 =>
 .ite (decide (0 ≤ x.1.2.1 ∧ x.1.2.1 < ((List.length x.2.1 : Nat) : Int)))
 (.get (nth x.2.1 (Int.toNat x.1.2.1)) fun y2 =>
 .ret (.again ((x.1.1, (IntKind.i64.wrap (x.1.2.1 + (1 : Int))), ()), ((List.set x.2.1 (Int.toNat x.1.2.1) y1), ()))))
 .fail)
 .fail)
 (.ret (.out ((), (x.2.1, ()))))
def f121_tree (a0 : List Int) : Out (((List Int × Unit) × Unit) × (Unit × Unit)) :=
 .ite (decide (0 ≤ ((List.length a0 : Nat) : Int) ∧ ((List.length a0 : Nat) : Int) ≤ ((List.length a0 : Nat) : Int) ∧ ((List.length a0 : Nat) : Int) ≤ (LIM : Int)))
 (.get (iter1 f121_L0 FUEL ((a0, (0 : Int), ()), ((List.replicate (Int.toNat ((List.length a0 : Nat) : Int)) (0 : Int)), ()))) fun y1 =>
 .ret (((y1.2.1, ()), ()), ((), ())))
 .fail
def f121_A : Nat → Option LoopAnn := fun n => annOf [(0, { head := { t := [.ro (.int .i64) (some 0), .dead, .dead, .srf 64000000, .i .i64, .dead, .dead, .dead, .dead, .dead, .dead, .dead, .dead, .dead, .dead, .dead, .dead, .dead, .dead, .dead, .dead, .dead], v := [(64000000, .arr (.int .i64))] }, out := { t := [.dead, .dead, .dead, .srf 64000256, .dead, .dead, .dead, .dead, .dead, .dead, .dead, .dead, .dead, .dead, .dead, .dead, .dead, .dead, .dead, .dead, .dead, .dead], v := [(64000256, .arr (.int .i64))] }, ret := none })] n
def toIntsV (a : List Int) : Option (List Int) := lim a a
def k121 : Con := { f := 121, lend := true, its := [⟨false, false, [.ro (.int .i64)]⟩], lay := [none], rs := [⟨false, false, [.own (.int .i64)]⟩], F := fun x => .get (toIntsV x.1.1) fun y => .ret (((y, ()), ()), ((), ())) }
theorem f121_eq (x : itemsD k121.its) : bodyOut (cxOf []) (f121_A) (codeOf Try.f121) k121.its k121.lay Try.f121.ntmps k121.rs [.tmp 2] x = f121_tree x.1.1 := by kernel_rfl
theorem f121_ok (hr : ∀ x : (List Int × Unit) × Unit, itemsWF k121.its x → (f121_tree x.1.1).eval = (k121.F x).eval) : k121.Ok Try.prog :=
  con_fn [] trivial (by kernel_rfl) (codeOf_eq (by kernel_rfl)) (by kernel_rfl) (by kernel_rfl) (by kernel_rfl) f121_eq fun x hw _ hy => (hr x hw).trans hy
def itemAt {α : Type} (d : α) (a : List α) (i : Nat) : α := (a[i]?).getD d
theorem markL_const {α : Type} (a b : List α) (hl : b.length = a.length) (d : Nat → α) (hd : ∀ i (h : i < a.length), d i = a[i]) : (List.range b.length).map d = a := by
  apply List.ext_getElem?
  intro i
  by_cases hi : i < a.length
  · rw [List.getElem?_map, List.getElem?_range (by omega), List.getElem?_eq_getElem hi, Option.map_some, hd i hi]
  · rw [List.getElem?_eq_none (by simp; omega), List.getElem?_eq_none (by omega)]
theorem k121_ok : k121.Ok Try.prog := by
  refine f121_ok fun x hw => ?_
  obtain ⟨⟨a, _⟩, _⟩ := x
  have ha : a.length ≤ BIG := hw.1.1.1
  show (f121_tree a).eval = (Out.get (toIntsV a) fun y => Out.ret (((y, ()), ()), ((), ()))).eval
  by_cases h : a.length ≤ LIM
  · have hcond : decide (0 ≤ ((a.length : Nat) : Int) ∧ ((a.length : Nat) : Int) ≤ ((a.length : Nat) : Int) ∧ ((a.length : Nat) : Int) ≤ (LIM : Int)) = true := decide_eq_true (by omega)
    unfold f121_tree toIntsV
    rw [lim_some h, eval_ite_t hcond]
    have hrl : (List.replicate a.length (0 : Int)).length = a.length := by simp
    have := iter1_out (f := f121_L0) (fun i => ((a, (((i : Nat) : Int), ())), (markL (itemAt 0 a) (List.replicate a.length (0 : Int)) i, ()))) a.length
      (y := ((), (markL (itemAt 0 a) (List.replicate a.length (0 : Int)) a.length, ()))) (lt_fuel ha)
      (fun i hi => by
        have h1 := wrap_succ (i := i) (by omega)
        have h2 := markL_length (g := itemAt 0 a) (a := List.replicate a.length (0 : Int)) (i := i) (by simp; omega)
        have h3 := markL_get (g := itemAt 0 a) (a := List.replicate a.length (0 : Int)) (i := i) (by simpa using hi)
        have h4 := markL_set (g := itemAt 0 a) (a := List.replicate a.length (0 : Int)) (i := i) (by simpa using hi)
        have h5 : itemAt 0 a i = a[i] := by simp [itemAt, List.getElem?_eq_getElem hi]
        rw [h5] at h4
        rw [hrl] at h2
        simp only [List.getElem_replicate] at h3
        simp [f121_L0, Out.eval, hi, h1, h2, h3, h4])
      (by simp [f121_L0, Out.eval])
    simp only [markL_zero] at this
    rw [Int.toNat_natCast]
    refine (eval_get_some this).trans ?_
    have hall := markL_all (itemAt 0 a) (List.replicate a.length (0 : Int))
    rw [hrl] at hall
    rw [hall]
    have : (List.range a.length).map (itemAt 0 a) = a := markL_const a a rfl _ fun i hi => by simp [itemAt, List.getElem?_eq_getElem hi]
    rw [this]
    rfl
  · have hcond : decide (0 ≤ ((a.length : Nat) : Int) ∧ ((a.length : Nat) : Int) ≤ ((a.length : Nat) : Int) ∧ ((a.length : Nat) : Int) ≤ (LIM : Int)) = false := decide_eq_false (by omega)
    unfold f121_tree toIntsV
    rw [lim_not h, eval_ite_f hcond]
    rfl
def f120_tree (a0 : Int) (a1 : List Int) : Out (((Int × List Int × Unit) × Unit) × (Unit × Unit)) :=
 .get (toIntsV a1) fun y1 =>
 .ret (((a0, y1, ()), ()), ((), ()))
def toCpuV (p : Int) (a : List Int) : Option (Int × List Int) := lim a (p, a)
def k120 : Con := { f := 120, lend := true, its := [⟨false, true, [.i .i64, .ro (.int .i64)]⟩], lay := [none], rs := [⟨false, true, [.i .i64, .own (.int .i64)]⟩], F := fun x => .get (toCpuV x.1.1 x.1.2.1) fun y => .ret (((y.1, y.2, ()), ()), ((), ())) }
theorem f120_eq (x : itemsD k120.its) : bodyOut (cxOf [k121]) (fun _ => none) (codeOf Try.f120) k120.its k120.lay Try.f120.ntmps k120.rs [.cell 2 37] x = f120_tree x.1.1 x.1.2.1 := by kernel_rfl
theorem f120_ok (hr : ∀ x : (Int × List Int × Unit) × Unit, itemsWF k120.its x → (f120_tree x.1.1 x.1.2.1).eval = (k120.F x).eval) : k120.Ok Try.prog :=
  con_fn [k121] ⟨k121_ok, trivial⟩ (by kernel_rfl) (codeOf_eq (by kernel_rfl)) (by kernel_rfl) (by kernel_rfl) (by kernel_rfl) f120_eq fun x hw _ hy => (hr x hw).trans hy
theorem k120_ok : k120.Ok Try.prog := by
  refine f120_ok fun x _ => ?_
  obtain ⟨⟨p, a, _⟩, _⟩ := x
  show (f120_tree p a).eval = (Out.get (toCpuV p a) fun y => Out.ret (((y.1, (y.2, ())), ()), ((), ()))).eval
  unfold f120_tree toCpuV toIntsV
  by_cases h : a.length ≤ LIM
  · rw [lim_some h, lim_some h]; rfl
  · rw [lim_not h, lim_not h]; rfl
def f33_tree (a0 : Int) (a1 : List Int) (a2 : List Int) (a3 : List Int) : Out (((Int × List Int × List Int × List Int × Unit) × Unit) × (Unit × Unit)) :=
 .get (toCpuV a0 a1) fun y1 =>
 .get (toIntsV a2) fun y2 =>
 .get (toIntsV a3) fun y3 =>
 .ret (((y1.1, y1.2, y2, y3, ()), ()), ((), ()))
def toViewV (p : Int) (a b c : List Int) : Option (Int × List Int × List Int × List Int) := if a.length ≤ LIM ∧ b.length ≤ LIM ∧ c.length ≤ LIM then some (p, a, b, c) else none
def k33 : Con := { f := 33, lend := true, its := [⟨false, true, [.i .i64, .ro (.int .i64), .ro (.int .i64), .ro (.int .i64)]⟩], lay := [none], rs := [⟨false, true, [.i .i64, .own (.int .i64), .own (.int .i64), .own (.int .i64)]⟩], F := fun x => .get (toViewV x.1.1 x.1.2.1 x.1.2.2.1 x.1.2.2.2.1) fun y => .ret (((y.1, y.2.1, y.2.2.1, y.2.2.2, ()), ()), ((), ())) }
theorem f33_eq (x : itemsD k33.its) : bodyOut (cxOf [k120, k121]) (fun _ => none) (codeOf Try.f33) k33.its k33.lay Try.f33.ntmps k33.rs [.cell 2 39] x = f33_tree x.1.1 x.1.2.1 x.1.2.2.1 x.1.2.2.2.1 := by kernel_rfl
theorem f33_ok (hr : ∀ x : (Int × List Int × List Int × List Int × Unit) × Unit, itemsWF k33.its x → (f33_tree x.1.1 x.1.2.1 x.1.2.2.1 x.1.2.2.2.1).eval = (k33.F x).eval) : k33.Ok Try.prog :=
  con_fn [k120, k121] ⟨k120_ok, k121_ok, trivial⟩ (by kernel_rfl) (codeOf_eq (by kernel_rfl)) (by kernel_rfl) (by kernel_rfl) (by kernel_rfl) f33_eq fun x hw _ hy => (hr x hw).trans hy
theorem k33_ok : k33.Ok Try.prog := by
  refine f33_ok fun x _ => ?_
  obtain ⟨⟨p, a, b, c, _⟩, _⟩ := x
  show (f33_tree p a b c).eval = (Out.get (toViewV p a b c) fun y => Out.ret (((y.1, (y.2.1, (y.2.2.1, (y.2.2.2, ())))), ()), ((), ()))).eval
  unfold f33_tree toViewV toCpuV toIntsV
  by_cases h1 : a.length ≤ LIM
  · by_cases h2 : b.length ≤ LIM
    · by_cases h3 : c.length ≤ LIM
      · simp [lim_some, h1, h2, h3, Out.eval]
      · simp [lim_some, lim_not, h1, h2, h3, Out.eval]
    · simp [lim_some, lim_not, h1, h2, Out.eval]
  · simp [lim_not, h1, Out.eval]

/-! ## Equal numbers -/
abbrev f100_S0 := (List (Int) × List (Int) × Int × Unit) × (Unit)
def f100_L0 (x : f100_S0) : Out (Round f100_S0 ((Unit) × (Unit)) ((Bool × Unit) × (Unit))) :=
 .ite (decide (x.1.2.2.1 < ((List.length x.1.1 : Nat) : Int)))
 (.ite (decide (0 ≤ x.1.2.2.1))
 (.get (nth x.1.1 (Int.toNat x.1.2.2.1)) fun y1 =>
 .ite (decide (0 ≤ x.1.2.2.1))
 (.get (nth x.1.2.1 (Int.toNat x.1.2.2.1)) fun y2 =>
 .ite ((y1 != y2))
 (.ret (.ret ((false, ()), ())))
 (.ret (.again ((x.1.1, x.1.2.1, (IntKind.i64.wrap (x.1.2.2.1 + (1 : Int))), ()), ()))))
 .fail)
 .fail)
 (.ret (.out ((), ())))
def f100_tree (a0 : List Int) (a1 : List Int) : Out (((Bool × Unit) × Unit) × (Unit × Unit × Unit)) :=
 .ite ((((List.length a0 : Nat) : Int) != ((List.length a1 : Nat) : Int)))
 (.ret (((false, ()), ()), ((), (), ())))
 (.get (iter f100_L0 FUEL ((a0, a1, (0 : Int), ()), ())) fun y1 => .alt y1 (fun y2 =>
 .ret (((true, ()), ()), ((), (), ()))) (fun y3 =>
 .ret (((y3.1.1, ()), ()), ((), (), ()))))
def f100_A : Nat → Option LoopAnn := fun n => annOf [(0, { head := { t := [.ro (.int .i64) (some 0), .ro (.int .i64) (some 1), .dead, .dead, .dead, .i .i64, .dead, .dead, .dead, .dead, .dead, .dead, .dead, .dead, .dead, .dead, .dead, .dead, .dead, .dead, .dead, .dead, .dead, .dead, .dead, .dead], v := [] }, out := { t := [.dead, .dead, .dead, .dead, .dead, .dead, .dead, .dead, .dead, .dead, .dead, .dead, .dead, .dead, .dead, .dead, .dead, .dead, .dead, .dead, .dead, .dead, .dead, .dead, .dead, .dead], v := [] }, ret := some { t := [.dead, .dead, .dead, .dead, .b, .dead, .dead, .dead, .dead, .dead, .dead, .dead, .dead, .dead, .dead, .dead, .dead, .dead, .dead, .dead, .dead, .dead, .dead, .dead, .dead, .dead], v := [] } })] n
def eqIntsV (a b : List Int) : Bool := decide (a = b)
def k100 : Con := { f := 100, lend := true, its := [⟨false, false, [.ro (.int .i64)]⟩, ⟨false, false, [.ro (.int .i64)]⟩], lay := [none, none], rs := [⟨false, false, [.b]⟩], F := fun x => .ret ((((eqIntsV x.1.1 x.2.1.1), ()), ()), ((), (), ())) }
theorem f100_eq (x : itemsD k100.its) : bodyOut (cxOf []) (f100_A) (codeOf Try.f100) k100.its k100.lay Try.f100.ntmps k100.rs [.tmp 4] x = f100_tree x.1.1 x.2.1.1 := by kernel_rfl
theorem f100_ok (hr : ∀ x : (List Int × Unit) × (List Int × Unit) × Unit, itemsWF k100.its x → (f100_tree x.1.1 x.2.1.1).eval = (k100.F x).eval) : k100.Ok Try.prog :=
  con_fn [] trivial (by kernel_rfl) (codeOf_eq (by kernel_rfl)) (by kernel_rfl) (by kernel_rfl) (by kernel_rfl) f100_eq fun x hw _ hy => (hr x hw).trans hy
theorem k100_ok : k100.Ok Try.prog := by
  refine f100_ok fun x hw => ?_
  obtain ⟨⟨a, _⟩, ⟨b, _⟩, _⟩ := x
  have ha : a.length ≤ BIG := hw.1.1.1
  show (f100_tree a b).eval = some (((eqIntsV a b, ()), ()), ((), ((), ())))
  unfold f100_tree
  by_cases hl : a.length = b.length
  · rw [eval_ite_f (len_eq hl)]
    have := eq_loop (f := f100_L0) a b (fun i => ((a, (b, (((i : Nat) : Int), ()))), ())) (y := ((), ())) (z := ((false, ()), ())) hl ha
      (fun i hi hi' he => by
        have := wrap_succ (i := i) (by omega)
        simp [f100_L0, Out.eval, hi, hi', he, this])
      (fun i hi hi' he => by simp [f100_L0, Out.eval, hi, hi', he, cond_eq_ite])
      (by simp [f100_L0, Out.eval])
    refine (eval_get_some this).trans ?_
    unfold eqIntsV
    by_cases hab : a = b
    · simp only [if_pos hab, decide_eq_true hab]; rfl
    · simp only [if_neg hab, decide_eq_false hab]; rfl
  · rw [eval_ite_t (len_ne hl)]
    have : eqIntsV a b = false := decide_eq_false fun e => hl (by rw [e])
    rw [this]
    rfl
abbrev f119_S0 := (List (Int) × List (Int) × Int × Unit) × (Unit)
def f119_L0 (x : f119_S0) : Out (Round f119_S0 ((Unit) × (Unit)) ((Bool × Unit) × (Unit))) :=
 .ite (decide (x.1.2.2.1 < ((List.length x.1.1 : Nat) : Int)))
 (.ite (decide (0 ≤ x.1.2.2.1))
 (.get (nth x.1.1 (Int.toNat x.1.2.2.1)) fun y1 =>
 .ite (decide (0 ≤ x.1.2.2.1))
 (.get (nth x.1.2.1 (Int.toNat x.1.2.2.1)) fun y2 =>
 .ite ((y1 != y2))
 (.ret (.ret ((false, ()), ())))
 (.ret (.again ((x.1.1, x.1.2.1, (IntKind.i64.wrap (x.1.2.2.1 + (1 : Int))), ()), ()))))
 .fail)
 .fail)
 (.ret (.out ((), ())))
def f119_tree (a0 : List Int) (a1 : List Int) : Out (((Bool × Unit) × Unit) × (Unit × Unit × Unit)) :=
 .ite ((((List.length a0 : Nat) : Int) != ((List.length a1 : Nat) : Int)))
 (.ret (((false, ()), ()), ((), (), ())))
 (.get (iter f119_L0 FUEL ((a0, a1, (0 : Int), ()), ())) fun y1 => .alt y1 (fun y2 =>
 .ret (((true, ()), ()), ((), (), ()))) (fun y3 =>
 .ret (((y3.1.1, ()), ()), ((), (), ()))))
def f119_A : Nat → Option LoopAnn := fun n => annOf [(0, { head := { t := [.ro (.int .i64) (some 0), .ro (.int .i64) (some 1), .dead, .dead, .dead, .i .i64, .dead, .dead, .dead, .dead, .dead, .dead, .dead, .dead, .dead, .dead, .dead, .dead, .dead, .dead, .dead, .dead, .dead, .dead, .dead, .dead], v := [] }, out := { t := [.dead, .dead, .dead, .dead, .dead, .dead, .dead, .dead, .dead, .dead, .dead, .dead, .dead, .dead, .dead, .dead, .dead, .dead, .dead, .dead, .dead, .dead, .dead, .dead, .dead, .dead], v := [] }, ret := some { t := [.dead, .dead, .dead, .dead, .b, .dead, .dead, .dead, .dead, .dead, .dead, .dead, .dead, .dead, .dead, .dead, .dead, .dead, .dead, .dead, .dead, .dead, .dead, .dead, .dead, .dead], v := [] } })] n
def k119 : Con := { f := 119, lend := true, its := [⟨false, false, [.ro (.int .i64)]⟩, ⟨false, false, [.ro (.int .i64)]⟩], lay := [none, none], rs := [⟨false, false, [.b]⟩], F := fun x => .ret ((((eqIntsV x.1.1 x.2.1.1), ()), ()), ((), (), ())) }
theorem f119_eq (x : itemsD k119.its) : bodyOut (cxOf []) (f119_A) (codeOf Try.f119) k119.its k119.lay Try.f119.ntmps k119.rs [.tmp 4] x = f119_tree x.1.1 x.2.1.1 := by kernel_rfl
theorem f119_ok (hr : ∀ x : (List Int × Unit) × (List Int × Unit) × Unit, itemsWF k119.its x → (f119_tree x.1.1 x.2.1.1).eval = (k119.F x).eval) : k119.Ok Try.prog :=
  con_fn [] trivial (by kernel_rfl) (codeOf_eq (by kernel_rfl)) (by kernel_rfl) (by kernel_rfl) (by kernel_rfl) f119_eq fun x hw _ hy => (hr x hw).trans hy
theorem k119_ok : k119.Ok Try.prog := by
  refine f119_ok fun x hw => ?_
  obtain ⟨⟨a, _⟩, ⟨b, _⟩, _⟩ := x
  have ha : a.length ≤ BIG := hw.1.1.1
  show (f119_tree a b).eval = some (((eqIntsV a b, ()), ()), ((), ((), ())))
  unfold f119_tree
  by_cases hl : a.length = b.length
  · rw [eval_ite_f (len_eq hl)]
    have := eq_loop (f := f119_L0) a b (fun i => ((a, (b, (((i : Nat) : Int), ()))), ())) (y := ((), ())) (z := ((false, ()), ())) hl ha
      (fun i hi hi' he => by
        have := wrap_succ (i := i) (by omega)
        simp [f119_L0, Out.eval, hi, hi', he, this])
      (fun i hi hi' he => by simp [f119_L0, Out.eval, hi, hi', he, cond_eq_ite])
      (by simp [f119_L0, Out.eval])
    refine (eval_get_some this).trans ?_
    unfold eqIntsV
    by_cases hab : a = b
    · simp only [if_pos hab, decide_eq_true hab]; rfl
    · simp only [if_neg hab, decide_eq_false hab]; rfl
  · rw [eval_ite_t (len_ne hl)]
    have : eqIntsV a b = false := decide_eq_false fun e => hl (by rw [e])
    rw [this]
    rfl
abbrev f122_S0 := (List (Int) × List (Int) × Int × Int × Unit) × (Unit)
def f122_L0 (x : f122_S0) : Out (Round f122_S0 ((Unit) × (Unit)) ((Bool × Unit) × (Unit))) :=
 .ite (decide (x.1.2.2.2.1 < x.1.2.2.1))
 (.ite (decide (0 ≤ x.1.2.2.2.1))
 (.get (nth x.1.1 (Int.toNat x.1.2.2.2.1)) fun y1 =>
 .ite (decide (0 ≤ x.1.2.2.2.1))
 (.get (nth x.1.2.1 (Int.toNat x.1.2.2.2.1)) fun y2 =>
 .ite ((y1 != y2))
 (.ret (.ret ((false, ()), ())))
 (.ret (.again ((x.1.1, x.1.2.1, x.1.2.2.1, (IntKind.i64.wrap (x.1.2.2.2.1 + (1 : Int))), ()), ()))))
 .fail)
 .fail)
 (.ret (.out ((), ())))
def f122_tree (a0 : List Int) (a1 : List Int) : Out (((Bool × Unit) × Unit) × (Unit × Unit × Unit)) :=
 .ite ((((List.length a0 : Nat) : Int) != ((List.length a1 : Nat) : Int)))
 (.ret (((false, ()), ()), ((), (), ())))
 (.get (iter f122_L0 FUEL ((a0, a1, ((List.length a0 : Nat) : Int), (0 : Int), ()), ())) fun y1 => .alt y1 (fun y2 =>
 .ret (((true, ()), ()), ((), (), ()))) (fun y3 =>
 .ret (((y3.1.1, ()), ()), ((), (), ()))))
def f122_A : Nat → Option LoopAnn := fun n => annOf [(0, { head := { t := [.ro (.int .i64) (some 0), .ro (.int .i64) (some 1), .dead, .dead, .dead, .dead, .dead, .dead, .dead, .dead, .dead, .dead, .i .i64, .i .i64, .dead, .dead, .dead, .dead, .dead, .dead, .dead, .dead, .dead, .dead, .dead, .dead], v := [] }, out := { t := [.dead, .dead, .dead, .dead, .dead, .dead, .dead, .dead, .dead, .dead, .dead, .dead, .dead, .dead, .dead, .dead, .dead, .dead, .dead, .dead, .dead, .dead, .dead, .dead, .dead, .dead], v := [] }, ret := some { t := [.dead, .dead, .dead, .dead, .b, .dead, .dead, .dead, .dead, .dead, .dead, .dead, .dead, .dead, .dead, .dead, .dead, .dead, .dead, .dead, .dead, .dead, .dead, .dead, .dead, .dead], v := [] } })] n
def k122 : Con := { f := 122, lend := true, its := [⟨false, false, [.ro (.int .i64)]⟩, ⟨false, false, [.ro (.int .i64)]⟩], lay := [none, none], rs := [⟨false, false, [.b]⟩], F := fun x => .ret ((((eqIntsV x.1.1 x.2.1.1), ()), ()), ((), (), ())) }
theorem f122_eq (x : itemsD k122.its) : bodyOut (cxOf []) (f122_A) (codeOf Try.f122) k122.its k122.lay Try.f122.ntmps k122.rs [.tmp 4] x = f122_tree x.1.1 x.2.1.1 := by kernel_rfl
theorem f122_ok (hr : ∀ x : (List Int × Unit) × (List Int × Unit) × Unit, itemsWF k122.its x → (f122_tree x.1.1 x.2.1.1).eval = (k122.F x).eval) : k122.Ok Try.prog :=
  con_fn [] trivial (by kernel_rfl) (codeOf_eq (by kernel_rfl)) (by kernel_rfl) (by kernel_rfl) (by kernel_rfl) f122_eq fun x hw _ hy => (hr x hw).trans hy
theorem k122_ok : k122.Ok Try.prog := by
  refine f122_ok fun x hw => ?_
  obtain ⟨⟨a, _⟩, ⟨b, _⟩, _⟩ := x
  have ha : a.length ≤ BIG := hw.1.1.1
  show (f122_tree a b).eval = some (((eqIntsV a b, ()), ()), ((), ((), ())))
  unfold f122_tree
  by_cases hl : a.length = b.length
  · rw [eval_ite_f (len_eq hl)]
    have := eq_loop (f := f122_L0) a b (fun i => ((a, (b, (((a.length : Nat) : Int), (((i : Nat) : Int), ())))), ())) (y := ((), ())) (z := ((false, ()), ())) hl ha
      (fun i hi hi' he => by
        have := wrap_succ (i := i) (by omega)
        simp [f122_L0, Out.eval, hi, hi', he, this])
      (fun i hi hi' he => by simp [f122_L0, Out.eval, hi, hi', he, cond_eq_ite])
      (by simp [f122_L0, Out.eval])
    refine (eval_get_some this).trans ?_
    unfold eqIntsV
    by_cases hab : a = b
    · simp only [if_pos hab, decide_eq_true hab]; rfl
    · simp only [if_neg hab, decide_eq_false hab]; rfl
  · rw [eval_ite_t (len_ne hl)]
    have : eqIntsV a b = false := decide_eq_false fun e => hl (by rw [e])
    rw [this]
    rfl
def f123_tree (a0 : Int) (a1 : List Int) (a2 : Int) (a3 : List Int) : Out (((Bool × Unit) × Unit) × (Unit × Unit × Unit)) :=
 .ite ((a0 != a2))
 (.ret (((false, ()), ()), ((), (), ())))
 (.ite (!(eqIntsV a1 a3))
 (.ret (((false, ()), ()), ((), (), ())))
 (.ret (((true, ()), ()), ((), (), ()))))
def eqCpuV (p : Int) (a : List Int) (q : Int) (b : List Int) : Bool := decide (p = q) && decide (a = b)
def k123 : Con := { f := 123, lend := true, its := [⟨false, true, [.i .i64, .ro (.int .i64)]⟩, ⟨false, true, [.i .i64, .ro (.int .i64)]⟩], lay := [none, none], rs := [⟨false, false, [.b]⟩], F := fun x => .ret ((((eqCpuV x.1.1 x.1.2.1 x.2.1.1 x.2.1.2.1), ()), ()), ((), (), ())) }
theorem f123_eq (x : itemsD k123.its) : bodyOut (cxOf [k100]) (fun _ => none) (codeOf Try.f123) k123.its k123.lay Try.f123.ntmps k123.rs [.tmp 4] x = f123_tree x.1.1 x.1.2.1 x.2.1.1 x.2.1.2.1 := by kernel_rfl
theorem f123_ok (hr : ∀ x : (Int × List Int × Unit) × (Int × List Int × Unit) × Unit, itemsWF k123.its x → (f123_tree x.1.1 x.1.2.1 x.2.1.1 x.2.1.2.1).eval = (k123.F x).eval) : k123.Ok Try.prog :=
  con_fn [k100] ⟨k100_ok, trivial⟩ (by kernel_rfl) (codeOf_eq (by kernel_rfl)) (by kernel_rfl) (by kernel_rfl) (by kernel_rfl) f123_eq fun x hw _ hy => (hr x hw).trans hy
theorem k123_ok : k123.Ok Try.prog := by
  refine f123_ok fun x _ => ?_
  obtain ⟨⟨p, a, _⟩, ⟨q, b, _⟩, _⟩ := x
  show (f123_tree p a q b).eval = some (((eqCpuV p a q b, ()), ()), ((), ((), ())))
  unfold f123_tree eqCpuV eqIntsV
  by_cases h1 : p = q <;> by_cases h2 : a = b <;> simp [Out.eval, h1, h2, cond_eq_ite]
def f35_tree (a0 : Int) (a1 : List Int) (a2 : List Int) (a3 : List Int) (a4 : Int) (a5 : List Int) (a6 : List Int) (a7 : List Int) : Out (((Bool × Unit) × Unit) × (Unit × Unit × Unit)) :=
 .ite (!(eqCpuV a0 a1 a4 a5))
 (.ret (((false, ()), ()), ((), (), ())))
 (.ite (!(eqIntsV a2 a6))
 (.ret (((false, ()), ()), ((), (), ())))
 (.ite (!(eqIntsV a3 a7))
 (.ret (((false, ()), ()), ((), (), ())))
 (.ret (((true, ()), ()), ((), (), ())))))
def eqViewV (p : Int) (a b c : List Int) (q : Int) (d e f : List Int) : Bool := decide (p = q) && decide (a = d) && decide (b = e) && decide (c = f)
def k35 : Con := { f := 35, lend := true, its := [⟨false, true, [.i .i64, .ro (.int .i64), .ro (.int .i64), .ro (.int .i64)]⟩, ⟨false, true, [.i .i64, .ro (.int .i64), .ro (.int .i64), .ro (.int .i64)]⟩], lay := [none, none], rs := [⟨false, false, [.b]⟩], F := fun x => .ret ((((eqViewV x.1.1 x.1.2.1 x.1.2.2.1 x.1.2.2.2.1 x.2.1.1 x.2.1.2.1 x.2.1.2.2.1 x.2.1.2.2.2.1), ()), ()), ((), (), ())) }
theorem f35_eq (x : itemsD k35.its) : bodyOut (cxOf [k123, k100]) (fun _ => none) (codeOf Try.f35) k35.its k35.lay Try.f35.ntmps k35.rs [.tmp 4] x = f35_tree x.1.1 x.1.2.1 x.1.2.2.1 x.1.2.2.2.1 x.2.1.1 x.2.1.2.1 x.2.1.2.2.1 x.2.1.2.2.2.1 := by kernel_rfl
theorem f35_ok (hr : ∀ x : (Int × List Int × List Int × List Int × Unit) × (Int × List Int × List Int × List Int × Unit) × Unit, itemsWF k35.its x → (f35_tree x.1.1 x.1.2.1 x.1.2.2.1 x.1.2.2.2.1 x.2.1.1 x.2.1.2.1 x.2.1.2.2.1 x.2.1.2.2.2.1).eval = (k35.F x).eval) : k35.Ok Try.prog :=
  con_fn [k123, k100] ⟨k123_ok, k100_ok, trivial⟩ (by kernel_rfl) (codeOf_eq (by kernel_rfl)) (by kernel_rfl) (by kernel_rfl) (by kernel_rfl) f35_eq fun x hw _ hy => (hr x hw).trans hy
theorem k35_ok : k35.Ok Try.prog := by
  refine f35_ok fun x _ => ?_
  obtain ⟨⟨p, a, b, c, _⟩, ⟨q, d, e, f, _⟩, _⟩ := x
  show (f35_tree p a b c q d e f).eval = some (((eqViewV p a b c q d e f, ()), ()), ((), ((), ())))
  unfold f35_tree eqViewV eqCpuV eqIntsV
  by_cases h1 : p = q <;> by_cases h2 : a = d <;> by_cases h3 : b = e <;> by_cases h4 : c = f <;> simp [Out.eval, h1, h2, h3, h4, cond_eq_ite]
def f32_tree (a0 : Int) (a1 : List Int) (a2 : List Int) (a3 : List Int) (a4 : Int) (a5 : List Int) (a6 : List Int) (a7 : List Int) : Out (((Bool × Unit) × Unit) × (Unit × Unit × Unit)) :=
 .ite (((a0 == a4)) == true)
 (.ite ((eqIntsV a1 a5) == true)
 (.ite ((eqIntsV a2 a6) == true)
 (.ret ((((eqIntsV a3 a7), ()), ()), ((), (), ())))
 (.ret (((false, ()), ()), ((), (), ()))))
 (.ret (((false, ()), ()), ((), (), ()))))
 (.ret (((false, ()), ()), ((), (), ())))
def k32 : Con := { f := 32, lend := true, its := [⟨false, true, [.i .i64, .ro (.int .i64), .ro (.int .i64), .ro (.int .i64)]⟩, ⟨false, true, [.i .i64, .ro (.int .i64), .ro (.int .i64), .ro (.int .i64)]⟩], lay := [none, none], rs := [⟨false, false, [.b]⟩], F := fun x => .ret ((((eqViewV x.1.1 x.1.2.1 x.1.2.2.1 x.1.2.2.2.1 x.2.1.1 x.2.1.2.1 x.2.1.2.2.1 x.2.1.2.2.2.1), ()), ()), ((), (), ())) }
theorem f32_eq (x : itemsD k32.its) : bodyOut (cxOf [k119]) (fun _ => none) (codeOf Try.f32) k32.its k32.lay Try.f32.ntmps k32.rs [.tmp 4] x = f32_tree x.1.1 x.1.2.1 x.1.2.2.1 x.1.2.2.2.1 x.2.1.1 x.2.1.2.1 x.2.1.2.2.1 x.2.1.2.2.2.1 := by kernel_rfl
theorem f32_ok (hr : ∀ x : (Int × List Int × List Int × List Int × Unit) × (Int × List Int × List Int × List Int × Unit) × Unit, itemsWF k32.its x → (f32_tree x.1.1 x.1.2.1 x.1.2.2.1 x.1.2.2.2.1 x.2.1.1 x.2.1.2.1 x.2.1.2.2.1 x.2.1.2.2.2.1).eval = (k32.F x).eval) : k32.Ok Try.prog :=
  con_fn [k119] ⟨k119_ok, trivial⟩ (by kernel_rfl) (codeOf_eq (by kernel_rfl)) (by kernel_rfl) (by kernel_rfl) (by kernel_rfl) f32_eq fun x hw _ hy => (hr x hw).trans hy
theorem k32_ok : k32.Ok Try.prog := by
  refine f32_ok fun x _ => ?_
  obtain ⟨⟨p, a, b, c, _⟩, ⟨q, d, e, f, _⟩, _⟩ := x
  show (f32_tree p a b c q d e f).eval = some (((eqViewV p a b c q d e f, ()), ()), ((), ((), ())))
  unfold f32_tree eqViewV eqIntsV
  by_cases h1 : p = q <;> by_cases h2 : a = d <;> by_cases h3 : b = e <;> by_cases h4 : c = f <;> simp [Out.eval, h1, h2, h3, h4, cond_eq_ite]
def f34_tree (a0 : Int) (a1 : List Int) (a2 : List Int) (a3 : List Int) (a4 : Int) (a5 : List Int) (a6 : List Int) (a7 : List Int) : Out (((Bool × Unit) × Unit) × (Unit × Unit × Unit)) :=
 .ite (((a0 == a4)) == true)
 (.ite ((eqIntsV a1 a5) == true)
 (.ite ((eqIntsV a2 a6) == true)
 (.ret ((((eqIntsV a3 a7), ()), ()), ((), (), ())))
 (.ret (((false, ()), ()), ((), (), ()))))
 (.ret (((false, ()), ()), ((), (), ()))))
 (.ret (((false, ()), ()), ((), (), ())))
def k34 : Con := { f := 34, lend := true, its := [⟨false, true, [.i .i64, .ro (.int .i64), .ro (.int .i64), .ro (.int .i64)]⟩, ⟨false, true, [.i .i64, .ro (.int .i64), .ro (.int .i64), .ro (.int .i64)]⟩], lay := [none, none], rs := [⟨false, false, [.b]⟩], F := fun x => .ret ((((eqViewV x.1.1 x.1.2.1 x.1.2.2.1 x.1.2.2.2.1 x.2.1.1 x.2.1.2.1 x.2.1.2.2.1 x.2.1.2.2.2.1), ()), ()), ((), (), ())) }
theorem f34_eq (x : itemsD k34.its) : bodyOut (cxOf [k122]) (fun _ => none) (codeOf Try.f34) k34.its k34.lay Try.f34.ntmps k34.rs [.tmp 4] x = f34_tree x.1.1 x.1.2.1 x.1.2.2.1 x.1.2.2.2.1 x.2.1.1 x.2.1.2.1 x.2.1.2.2.1 x.2.1.2.2.2.1 := by kernel_rfl
theorem f34_ok (hr : ∀ x : (Int × List Int × List Int × List Int × Unit) × (Int × List Int × List Int × List Int × Unit) × Unit, itemsWF k34.its x → (f34_tree x.1.1 x.1.2.1 x.1.2.2.1 x.1.2.2.2.1 x.2.1.1 x.2.1.2.1 x.2.1.2.2.1 x.2.1.2.2.2.1).eval = (k34.F x).eval) : k34.Ok Try.prog :=
  con_fn [k122] ⟨k122_ok, trivial⟩ (by kernel_rfl) (codeOf_eq (by kernel_rfl)) (by kernel_rfl) (by kernel_rfl) (by kernel_rfl) f34_eq fun x hw _ hy => (hr x hw).trans hy
theorem k34_ok : k34.Ok Try.prog := by
  refine f34_ok fun x _ => ?_
  obtain ⟨⟨p, a, b, c, _⟩, ⟨q, d, e, f, _⟩, _⟩ := x
  show (f34_tree p a b c q d e f).eval = some (((eqViewV p a b c q d e f, ()), ()), ((), ((), ())))
  unfold f34_tree eqViewV eqIntsV
  by_cases h1 : p = q <;> by_cases h2 : a = d <;> by_cases h3 : b = e <;> by_cases h4 : c = f <;> simp [Out.eval, h1, h2, h3, h4, cond_eq_ite]

theorem thenV_not {x y : Int} (h : ¬ thenV x y < 0) : ¬ x < 0 ∧ thenV x y = y := by
  unfold thenV at h ⊢
  split at h
  · omega
  · rename_i hx; exact ⟨hx, if_neg hx⟩
theorem szView_le {p : Int} {a b c : List Int} {left : Int} (ha : a.length ≤ BIG) (hb : b.length ≤ BIG) (hc : c.length ≤ BIG) (h0 : -1 ≤ left) (h1 : left ≤ 1048576) (h : ¬ szViewV p a b c left < 0) :
    a.length ≤ 1048576 ∧ b.length ≤ 1048576 ∧ c.length ≤ 1048576 ∧ -1 ≤ szViewV p a b c left ∧ szViewV p a b c left ≤ 1048576 := by
  unfold szViewV at h ⊢
  obtain ⟨g1, e1⟩ := thenV_not h
  rw [e1] at h ⊢
  obtain ⟨g2, e2⟩ := thenV_not h
  rw [e2] at h ⊢
  obtain ⟨g3, e3⟩ := thenV_not h
  rw [e3]
  unfold szCpuV at g1 g2 g3 ⊢
  obtain ⟨g4, e4⟩ := thenV_not g1
  rw [e4] at g2 g3 ⊢
  unfold szIntSV at *
  have q1 := lessV_le (m := 1048576) (by decide) h0 h1 ha g4
  have q2 := lessV_le (m := 1048576) (by decide) (by omega) (by omega) hb g2
  have q3 := lessV_le (m := 1048576) (by decide) (by omega) (by omega) hc g3
  omega

end Go.Proofs.Ytjcinikojcfebaa.Dm
