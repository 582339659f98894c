/- Functions of the program, and what they compute. -/
import Derived.Test.YtjcinikojcfebaaGreatA5
namespace Go.Proofs.YtjcinikojcfebaaGreat.Dm
open Go Go.ChangeShapes Go.WideShapes Go.ChangeAt Go.RowKit

/-! ## Copies of lists, by the library -/
def cloneV {α : Type} (a : List α) : Option (List α) := lim a a
def k49 : Con := { f := 49, lend := true, its := [⟨false, false, [.ro .str]⟩], lay := [none], rs := [⟨false, false, [.own .str]⟩], F := fun x => .get (cloneV x.1.1) fun y => .ret (((y, ()), ()), ((), ())) }
noncomputable def f49_c : Code := codeOf Tryz.f49
noncomputable def f49_B : Code := cSeqR (cSeqR f49_c)
noncomputable def f49_M : Code := cSeqL (cSeqR f49_c)
noncomputable def f49_X : Code := cThen (cSeqR f49_M)
theorem f49_code : codeOf Tryz.f49 = .seq (cSeqL f49_c) (.seq (.seq (.region 1 #[cOp (cSeqL f49_M) 0, cOp (cSeqL f49_M) 1] false) (.cond (.tmp 4) (.seq (.region 2 (cOps (cSeqL f49_X)) false) .ret) .skip)) f49_B) := by kernel_rfl
theorem f49_yes (x : (List (List UInt8) × Unit) × Unit) : askOut (cxOf []) (fun _ => none) (cSeqL f49_c) (.seq (.region 2 (cOps (cSeqL f49_X)) false) .ret) k49.its k49.lay Tryz.f49.ntmps k49.rs [.tmp 2] x = Out.ret ((((([] : List (List UInt8))), ()), ()), ((), ())) := by kernel_rfl
theorem f49_no (x : (List (List UInt8) × Unit) × Unit) : askOut (cxOf []) (fun _ => none) (cSeqL f49_c) f49_B k49.its k49.lay Tryz.f49.ntmps k49.rs [.tmp 2] x = Out.ite (decide (List.length ([] : List (List UInt8)) + List.length x.1.1 ≤ LIM)) (Out.ret (((([] : List (List UInt8)) ++ x.1.1, ()), ()), ((), ()))) Out.fail := by kernel_rfl
theorem k49_ok : k49.Ok Tryz.prog := by
  refine con_of_ask (cxOf'_ok tab_ok eqT_ok []) (callL_ok [] (fun K hK => by cases hK) rfl) mixed_ok (An := fun _ => none) (rtm := [.tmp 2]) (tk := some 0) (tid := 22) (te := 9) (l := fun x => x.1.1) (by kernel_rfl) (codeOf_eq (by kernel_rfl)) (by kernel_rfl) (by kernel_rfl) (by decide) (by decide) (by decide)
    f49_code (by kernel_rfl) (by kernel_rfl) (by kernel_rfl) (by kernel_rfl) (by kernel_rfl) (by kernel_rfl) (by kernel_rfl) (fun x => by kernel_rfl) (fun x => Nat.le_of_ble_eq_true (by kernel_rfl)) (fun x y _ hy => ?_) (fun x y _ hl hy => ?_)
  · obtain ⟨⟨a, _⟩, _⟩ := x
    refine (congrArg Out.eval (f49_no _)).trans ?_
    change (Out.get (cloneV a) fun y => Out.ret (((y, ()), ()), ((), ()))).eval = some y at hy
    unfold cloneV at hy
    by_cases h : a.length ≤ LIM
    · rw [lim_some h] at hy
      exact (eval_ite_t (decide_eq_true (show 0 + a.length ≤ LIM from (Nat.zero_add _).symm ▸ h))).trans hy
    · rw [lim_not h] at hy; exact nomatch hy
  · obtain ⟨⟨a, _⟩, _⟩ := x
    obtain rfl : a = [] := hl
    exact (congrArg Out.eval (f49_yes _)).trans hy
def k86 : Con := { f := 86, lend := true, its := [⟨false, false, [.ro (.st (.cons (.int .i64) (.cons .str .nil)))]⟩], lay := [none], rs := [⟨false, false, [.own (.st (.cons (.int .i64) (.cons .str .nil)))]⟩], F := fun x => .get (cloneV x.1.1) fun y => .ret (((y, ()), ()), ((), ())) }
noncomputable def f86_c : Code := codeOf Tryz.f86
noncomputable def f86_B : Code := cSeqR (cSeqR f86_c)
noncomputable def f86_M : Code := cSeqL (cSeqR f86_c)
noncomputable def f86_X : Code := cThen (cSeqR f86_M)
theorem f86_code : codeOf Tryz.f86 = .seq (cSeqL f86_c) (.seq (.seq (.region 1 #[cOp (cSeqL f86_M) 0, cOp (cSeqL f86_M) 1] false) (.cond (.tmp 4) (.seq (.region 2 (cOps (cSeqL f86_X)) false) .ret) .skip)) f86_B) := by kernel_rfl
theorem f86_yes (x : (List (Int × List UInt8 × Unit) × Unit) × Unit) : askOut (cxOf []) (fun _ => none) (cSeqL f86_c) (.seq (.region 2 (cOps (cSeqL f86_X)) false) .ret) k86.its k86.lay Tryz.f86.ntmps k86.rs [.tmp 2] x = Out.ret ((((([] : List ((Int × List UInt8 × Unit)))), ()), ()), ((), ())) := by kernel_rfl
theorem f86_no (x : (List (Int × List UInt8 × Unit) × Unit) × Unit) : askOut (cxOf []) (fun _ => none) (cSeqL f86_c) f86_B k86.its k86.lay Tryz.f86.ntmps k86.rs [.tmp 2] x = Out.ite (decide (List.length ([] : List ((Int × List UInt8 × Unit))) + List.length x.1.1 ≤ LIM)) (Out.ret (((([] : List ((Int × List UInt8 × Unit))) ++ x.1.1, ()), ()), ((), ()))) Out.fail := by kernel_rfl
theorem k86_ok : k86.Ok Tryz.prog := by
  refine con_of_ask (cxOf'_ok tab_ok eqT_ok []) (callL_ok [] (fun K hK => by cases hK) rfl) mixed_ok (An := fun _ => none) (rtm := [.tmp 2]) (tk := some 0) (tid := 30) (te := 50) (l := fun x => x.1.1) (by kernel_rfl) (codeOf_eq (by kernel_rfl)) (by kernel_rfl) (by kernel_rfl) (by decide) (by decide) (by decide)
    f86_code (by kernel_rfl) (by kernel_rfl) (by kernel_rfl) (by kernel_rfl) (by kernel_rfl) (by kernel_rfl) (by kernel_rfl) (fun x => by kernel_rfl) (fun x => Nat.le_of_ble_eq_true (by kernel_rfl)) (fun x y _ hy => ?_) (fun x y _ hl hy => ?_)
  · obtain ⟨⟨a, _⟩, _⟩ := x
    refine (congrArg Out.eval (f86_no _)).trans ?_
    change (Out.get (cloneV a) fun y => Out.ret (((y, ()), ()), ((), ()))).eval = some y at hy
    unfold cloneV at hy
    by_cases h : a.length ≤ LIM
    · rw [lim_some h] at hy
      exact (eval_ite_t (decide_eq_true (show 0 + a.length ≤ LIM from (Nat.zero_add _).symm ▸ h))).trans hy
    · rw [lim_not h] at hy; exact nomatch hy
  · obtain ⟨⟨a, _⟩, _⟩ := x
    obtain rfl : a = [] := hl
    exact (congrArg Out.eval (f86_yes _)).trans hy
def k87 : Con := { f := 87, lend := true, its := [⟨false, false, [.ro (.int .i64)]⟩], lay := [none], rs := [⟨false, false, [.own (.int .i64)]⟩], F := fun x => .get (cloneV x.1.1) fun y => .ret (((y, ()), ()), ((), ())) }
noncomputable def f87_c : Code := codeOf Tryz.f87
noncomputable def f87_B : Code := cSeqR (cSeqR f87_c)
noncomputable def f87_M : Code := cSeqL (cSeqR f87_c)
noncomputable def f87_X : Code := cThen (cSeqR f87_M)
theorem f87_code : codeOf Tryz.f87 = .seq (cSeqL f87_c) (.seq (.seq (.region 1 #[cOp (cSeqL f87_M) 0, cOp (cSeqL f87_M) 1] false) (.cond (.tmp 4) (.seq (.region 2 (cOps (cSeqL f87_X)) false) .ret) .skip)) f87_B) := by kernel_rfl
theorem f87_yes (x : (List Int × Unit) × Unit) : askOut (cxOf []) (fun _ => none) (cSeqL f87_c) (.seq (.region 2 (cOps (cSeqL f87_X)) false) .ret) k87.its k87.lay Tryz.f87.ntmps k87.rs [.tmp 2] x = Out.ret ((((([] : List (Int))), ()), ()), ((), ())) := by kernel_rfl
theorem f87_no (x : (List Int × Unit) × Unit) : askOut (cxOf []) (fun _ => none) (cSeqL f87_c) f87_B k87.its k87.lay Tryz.f87.ntmps k87.rs [.tmp 2] x = Out.ite (decide (List.length ([] : List (Int)) + List.length x.1.1 ≤ LIM)) (Out.ret (((([] : List (Int)) ++ x.1.1, ()), ()), ((), ()))) Out.fail := by kernel_rfl
theorem k87_ok : k87.Ok Tryz.prog := by
  refine con_of_ask (cxOf'_ok tab_ok eqT_ok []) (callL_ok [] (fun K hK => by cases hK) rfl) mixed_ok (An := fun _ => none) (rtm := [.tmp 2]) (tk := some 0) (tid := 60) (te := 3) (l := fun x => x.1.1) (by kernel_rfl) (codeOf_eq (by kernel_rfl)) (by kernel_rfl) (by kernel_rfl) (by decide) (by decide) (by decide)
    f87_code (by kernel_rfl) (by kernel_rfl) (by kernel_rfl) (by kernel_rfl) (by kernel_rfl) (by kernel_rfl) (by kernel_rfl) (fun x => by kernel_rfl) (fun x => Nat.le_of_ble_eq_true (by kernel_rfl)) (fun x y _ hy => ?_) (fun x y _ hl hy => ?_)
  · obtain ⟨⟨a, _⟩, _⟩ := x
    refine (congrArg Out.eval (f87_no _)).trans ?_
    change (Out.get (cloneV a) fun y => Out.ret (((y, ()), ()), ((), ()))).eval = some y at hy
    unfold cloneV at hy
    by_cases h : a.length ≤ LIM
    · rw [lim_some h] at hy
      exact (eval_ite_t (decide_eq_true (show 0 + a.length ≤ LIM from (Nat.zero_add _).symm ▸ h))).trans hy
    · rw [lim_not h] at hy; exact nomatch hy
  · obtain ⟨⟨a, _⟩, _⟩ := x
    obtain rfl : a = [] := hl
    exact (congrArg Out.eval (f87_yes _)).trans hy
/-! ## Changes of disks -/
def f36_tree (a0 : List (List UInt8)) (a1 : List (Int × List UInt8 × Unit)) : Out (((List (List UInt8) × List (Int × List UInt8 × Unit) × Unit) × Unit) × (Unit × Unit)) :=
 .ite (decide (List.length ([] : List (List UInt8)) + List.length a0 ≤ LIM))
 (.ite (decide (List.length ([] : List ((Int × List UInt8 × Unit))) + List.length a1 ≤ LIM))
 (.ret ((((([] : List (List UInt8)) ++ a0), (([] : List ((Int × List UInt8 × Unit))) ++ a1), ()), ()), ((), ())))
 .fail)
 .fail
def k36 : Con := { f := 36, lend := true, its := [⟨false, true, [.ro .str, .ro (.st (.cons (.int .i64) (.cons .str .nil)))]⟩], lay := [none], rs := [⟨false, true, [.own .str, .own (.st (.cons (.int .i64) (.cons .str .nil)))]⟩], F := fun x => .get (toDiskV x.1.1 x.1.2.1) fun y => .ret (((y.1, y.2, ()), ()), ((), ())) }
theorem f36_eq (x : itemsD k36.its) : bodyOut (cxOf []) (fun _ => none) (codeOf Tryz.f36) k36.its k36.lay Tryz.f36.ntmps k36.rs [.cell 2 32] x = f36_tree x.1.1 x.1.2.1 := by kernel_rfl
theorem f36_ok (hr : ∀ x : (List (List UInt8) × List (Int × List UInt8 × Unit) × Unit) × Unit, itemsWF k36.its x → (f36_tree x.1.1 x.1.2.1).eval = (k36.F x).eval) : k36.Ok Tryz.prog :=
  con_fn [] trivial (by kernel_rfl) (codeOf_eq (by kernel_rfl)) (by kernel_rfl) (by kernel_rfl) (by kernel_rfl) f36_eq fun x hw _ hy => (hr x hw).trans hy
theorem toDiskV_t {a : List Str} {b : List WriteD} (h1 : a.length ≤ LIM) (h2 : b.length ≤ LIM) : toDiskV a b = some (a, b) := if_pos ⟨h1, h2⟩
theorem toDiskV_f {a : List Str} {b : List WriteD} (h : ¬ (a.length ≤ LIM ∧ b.length ≤ LIM)) : toDiskV a b = none := if_neg h
theorem k36_ok : k36.Ok Tryz.prog := by
  refine f36_ok fun x _ => ?_
  obtain ⟨⟨a, b, _⟩, _⟩ := x
  show (f36_tree a b).eval = (Out.get (toDiskV a b) fun y => Out.ret (((y.1, (y.2, ())), ()), ((), ()))).eval
  unfold f36_tree toDiskV
  by_cases h1 : a.length ≤ LIM <;> by_cases h2 : b.length ≤ LIM <;> simp [Out.eval, h1, h2]
def f51_tree (a0 : List (List UInt8)) (a1 : List (Int × List UInt8 × Unit)) : Out (((List (List UInt8) × List (Int × List UInt8 × Unit) × Unit) × Unit) × (Unit × Unit)) :=
 .get (cloneV a0) fun y1 =>
 .get (cloneV a1) fun y2 =>
 .ret (((y1, y2, ()), ()), ((), ()))
def k51 : Con := { f := 51, lend := true, its := [⟨false, true, [.ro .str, .ro (.st (.cons (.int .i64) (.cons .str .nil)))]⟩], lay := [none], rs := [⟨false, true, [.own .str, .own (.st (.cons (.int .i64) (.cons .str .nil)))]⟩], F := fun x => .get (toDiskV x.1.1 x.1.2.1) fun y => .ret (((y.1, y.2, ()), ()), ((), ())) }
theorem f51_eq (x : itemsD k51.its) : bodyOut (cxOf [k49, k86]) (fun _ => none) (codeOf Tryz.f51) k51.its k51.lay Tryz.f51.ntmps k51.rs [.cell 2 32] x = f51_tree x.1.1 x.1.2.1 := by kernel_rfl
theorem f51_ok (hr : ∀ x : (List (List UInt8) × List (Int × List UInt8 × Unit) × Unit) × Unit, itemsWF k51.its x → (f51_tree x.1.1 x.1.2.1).eval = (k51.F x).eval) : k51.Ok Tryz.prog :=
  con_fn [k49, k86] ⟨k49_ok, k86_ok, trivial⟩ (by kernel_rfl) (codeOf_eq (by kernel_rfl)) (by kernel_rfl) (by kernel_rfl) (by kernel_rfl) f51_eq fun x hw _ hy => (hr x hw).trans hy
theorem k51_ok : k51.Ok Tryz.prog := by
  refine f51_ok fun x _ => ?_
  obtain ⟨⟨a, b, _⟩, _⟩ := x
  show (f51_tree a b).eval = (Out.get (toDiskV a b) fun y => Out.ret (((y.1, (y.2, ())), ()), ((), ()))).eval
  unfold f51_tree toDiskV cloneV
  by_cases h1 : a.length ≤ LIM
  · by_cases h2 : b.length ≤ LIM
    · simp [lim_some, h1, h2, Out.eval]
    · simp [lim_some, lim_not, h1, h2, Out.eval]
  · simp [lim_not, h1, Out.eval]
theorem diskOkV_parts {a : List Str} {b : List WriteD} (h : diskOkV a b = true) : a.length = 7 ∧ b.length ≤ 20 ∧ (∀ x ∈ a, x.length ≤ 600) ∧ ∀ x ∈ b, (0 ≤ x.1 ∧ x.1 < 7) ∧ x.2.1.length ≤ 600 := by
  unfold diskOkV at h
  obtain ⟨h, h4⟩ := Bool.and_eq_true_iff.1 h
  obtain ⟨h, h3⟩ := Bool.and_eq_true_iff.1 h
  obtain ⟨h1, h2⟩ := Bool.and_eq_true_iff.1 h
  refine ⟨of_decide_eq_true h1, of_decide_eq_true h2, fun x hx => of_decide_eq_true (List.all_eq_true.1 h3 x hx), fun x hx => ?_⟩
  have := List.all_eq_true.1 h4 x hx
  simpa [writeOkV] using this
theorem diskOkV_to {a : List Str} {b : List WriteD} (h : diskOkV a b = true) : toDiskV a b = some (a, b) := by
  obtain ⟨h1, h2, _⟩ := diskOkV_parts h
  exact toDiskV_t (by rw [LIM_eq]; omega) (by rw [LIM_eq]; omega)
/-- Writes that are put on a disk's list. -/
def putV (a : List Str) (b l : List WriteD) : Option (List Str × List WriteD × Bool) := if l.length ≤ LIM then
    (if diskOkV a b = true then (if b.length + l.length ≤ 20 ∧ l.all (fun x => writeOkV x.1 x.2.1) = true then some (a, b ++ l, true) else some (a, b, false)) else some ([], [], false))
  else none
theorem anyBadV_not (l : List WriteD) : anyBadV l = !l.all (fun x => writeOkV x.1 x.2.1) := by
  have : l.all (fun x => writeOkV x.1 x.2.1) = !anyBadV l := (not_any l _).symm
  rw [this, Bool.not_not]
/-! ## Writes under way that are done -/
/-- Is this bit of a mask set? -/
def bitE (i : Nat) (m : Int) : Bool := decide (m ≥ 0) && (IntKind.i64.wrap (((BitVec.ofInt (IntKind.bits IntKind.i64) (Int.fdiv m (2 ^ (min i (IntKind.bits IntKind.i64)))) &&& BitVec.ofInt (IntKind.bits IntKind.i64) (1 : Int)).toNat : Nat) : Int) == (1 : Int))
def bitV (i m : Int) : Option (Bool × Int) := if i < 0 then none else some (bitE i.toNat m, m)
/-- The blocks behind those writes for which p holds. -/
def stepD (p : Nat → Bool) (s : List Str × Nat) (x : WriteD) : List Str × Nat := (if p s.2 = true then s.1.set x.1.toNat x.2.1 else s.1, s.2 + 1)
def applyV (p : Nat → Bool) (a : List Str) (b : List WriteD) : List Str := (b.foldl (stepD p) (a, 0)).1
def fitV (a : List Str) (b : List WriteD) : Bool := b.all fun x => decide (0 ≤ x.1) && decide (x.1 < (a.length : Int))
def doneV (a : List Str) (b : List WriteD) (m : Int) (all : Bool) : Option (List Str × List WriteD) := if fitV a b = true then some (applyV (fun i => all || bitE i m) a b, []) else none
theorem bitE_not {i : Nat} {m : Int} (h : ¬ 0 ≤ m) : bitE i m = false := by unfold bitE; rw [decide_eq_false h]; rfl
def f47_tree (a0 : Int) (a1 : Int) : Out (((Bool × Unit) × Unit) × (Unit × (Int × Unit) × Unit)) :=
 .ite ((decide (a1 ≥ (0 : Int))) == true)
 (.ite (decide (a0 < 0))
 .fail
 (.ret ((((((IntKind.i64.wrap (((BitVec.ofInt (IntKind.bits IntKind.i64) (Int.fdiv a1 (2 ^ (min (Int.toNat a0) (IntKind.bits IntKind.i64)))) &&& BitVec.ofInt (IntKind.bits IntKind.i64) (1 : Int)).toNat : Int))) == (1 : Int))), ()), ()), ((), (a1, ()), ()))))
 (.ret (((false, ()), ()), ((), (a1, ()), ())))
def k47 : Con := { f := 47, lend := true, its := [⟨false, false, [.i .i64]⟩, ⟨true, false, [.i .i64]⟩], lay := [none, none], rs := [⟨false, false, [.b]⟩], F := fun x => .get (bitV x.1.1 x.2.1.1) fun y => .ret (((y.1, ()), ()), ((), (y.2, ()), ())) }
theorem f47_eq (x : itemsD k47.its) : bodyOut (cxOf []) (fun _ => none) (codeOf Tryz.f47) k47.its k47.lay Tryz.f47.ntmps k47.rs [.tmp 3] x = f47_tree x.1.1 x.2.1.1 := by kernel_rfl
theorem f47_okp (hr : ∀ x : (Int × Unit) × (Int × Unit) × Unit, itemsWF k47.its x → ∀ y, (k47.F x).eval = some y → (f47_tree x.1.1 x.2.1.1).eval = some y) : k47.Ok Tryz.prog :=
  con_fn [] trivial (by kernel_rfl) (codeOf_eq (by kernel_rfl)) (by kernel_rfl) (by kernel_rfl) (by kernel_rfl) f47_eq hr
theorem k47_ok : k47.Ok Tryz.prog := by
  refine f47_okp fun x _ y hy => ?_
  obtain ⟨⟨i, _⟩, ⟨m, _⟩, _⟩ := x
  change (Out.get (bitV i m) fun y => Out.ret (((y.1, ()), ()), ((), ((y.2, ()), ())))).eval = some y at hy
  show (f47_tree i m).eval = some y
  unfold bitV at hy
  split at hy
  case isTrue => exact nomatch hy
  rename_i hi
  refine Eq.trans ?_ hy
  unfold f47_tree
  by_cases h : 0 ≤ m
  · rw [eval_ite_t (by rw [decide_eq_true h]; rfl), eval_ite_f (decide_eq_false hi)]
    simp only [bitE, decide_eq_true h, Bool.true_and]
    rfl
  · rw [eval_ite_f (by rw [decide_eq_false h]; rfl), bitE_not h]; rfl
theorem fitV_get {a : List Str} {b : List WriteD} (h : fitV a b = true) {i : Nat} (hi : i < b.length) : 0 ≤ b[i].1 ∧ b[i].1 < (a.length : Int) := by
  have := List.all_eq_true.1 h _ (List.getElem_mem hi)
  simpa using this
theorem u64_n {i : Nat} (h : i ≤ BIG) : IntKind.u64.wrap ((i : Nat) : Int) = ((i : Nat) : Int) := by
  unfold BIG at h
  simp [IntKind.wrap, IntKind.bits, IntKind.signed]
  omega
abbrev f35_S0 := (Int × Bool × Int × Unit) × (Unit × Unit × List (List UInt8) × List ((Int × List UInt8 × Unit)) × List (List UInt8) × List ((Int × List UInt8 × Unit)) × Unit)
def f35_L0 (x : f35_S0) : Out (Round f35_S0 ((Unit) × (Unit × Unit × List (List UInt8) × List ((Int × List UInt8 × Unit)) × List (List UInt8) × List ((Int × List UInt8 × Unit)) × Unit)) Empty) :=
 .ite (decide (x.1.2.2.1 < ((List.length x.2.2.2.2.1 : Nat) : Int)))
 (.ite (x.1.2.1 == false)
 (.ite ((decide (x.1.1 ≥ (0 : Int))) == true)
 (.ite (decide ((IntKind.u64.wrap x.1.2.2.1) < 0))
 .fail
 (.ite (((IntKind.i64.wrap (((BitVec.ofInt (IntKind.bits IntKind.i64) (Int.fdiv x.1.1 (2 ^ (min (Int.toNat (IntKind.u64.wrap x.1.2.2.1)) (IntKind.bits IntKind.i64)))) &&& BitVec.ofInt (IntKind.bits IntKind.i64) (1 : Int)).toNat : Int))) == (1 : Int)))
 (.ite (decide (0 ≤ x.1.2.2.1 ∧ x.1.2.2.1 < ((List.length x.2.2.2.2.1 : Nat) : Int)))
 (.get (nth x.2.2.2.2.1 (Int.toNat x.1.2.2.1)) fun y1 =>
 .ite (decide (0 ≤ x.1.2.2.1 ∧ x.1.2.2.1 < ((List.length x.2.2.2.2.1 : Nat) : Int)))
 (.get (nth x.2.2.2.2.1 (Int.toNat x.1.2.2.1)) fun y2 =>
 .ite (decide (0 ≤ y1.1 ∧ y1.1 < ((List.length x.2.2.2.1 : Nat) : Int)))
 (.get (nth x.2.2.2.1 (Int.toNat y1.1)) fun y3 =>
 .ret (.again ((x.1.1, x.1.2.1, (IntKind.i64.wrap (x.1.2.2.1 + (1 : Int))), ()), ((), (), (List.set x.2.2.2.1 (Int.toNat y1.1) y2.2.1), x.2.2.2.2.1, x.2.2.2.2.2.1, x.2.2.2.2.2.2.1, ()))))
 .fail)
 .fail)
 .fail)
 (.ret (.again ((x.1.1, x.1.2.1, (IntKind.i64.wrap (x.1.2.2.1 + (1 : Int))), ()), ((), (), x.2.2.2.1, x.2.2.2.2.1, x.2.2.2.2.2.1, x.2.2.2.2.2.2.1, ()))))))
 (.ret (.again ((x.1.1, x.1.2.1, (IntKind.i64.wrap (x.1.2.2.1 + (1 : Int))), ()), ((), (), x.2.2.2.1, x.2.2.2.2.1, x.2.2.2.2.2.1, x.2.2.2.2.2.2.1, ())))))
 (.ite (decide (0 ≤ x.1.2.2.1 ∧ x.1.2.2.1 < ((List.length x.2.2.2.2.1 : Nat) : Int)))
 (.get (nth x.2.2.2.2.1 (Int.toNat x.1.2.2.1)) fun y4 =>
 .ite (decide (0 ≤ x.1.2.2.1 ∧ x.1.2.2.1 < ((List.length x.2.2.2.2.1 : Nat) : Int)))
 (.get (nth x.2.2.2.2.1 (Int.toNat x.1.2.2.1)) fun y5 =>
 .ite (decide (0 ≤ y4.1 ∧ y4.1 < ((List.length x.2.2.2.1 : Nat) : Int)))
 (.get (nth x.2.2.2.1 (Int.toNat y4.1)) fun y6 =>
 .ret (.again ((x.1.1, x.1.2.1, (IntKind.i64.wrap (x.1.2.2.1 + (1 : Int))), ()), ((), (), (List.set x.2.2.2.1 (Int.toNat y4.1) y5.2.1), x.2.2.2.2.1, x.2.2.2.2.2.1, x.2.2.2.2.2.2.1, ()))))
 .fail)
 .fail)
 .fail))
 (.ret (.out ((), ((), (), x.2.2.2.1, x.2.2.2.2.1, x.2.2.2.2.2.1, x.2.2.2.2.2.2.1, ()))))
def f35_tree (a0 : List (List UInt8)) (a1 : List (Int × List UInt8 × Unit)) (a2 : Int) (a3 : Bool) : Out (((List (List UInt8) × List (Int × List UInt8 × Unit) × Unit) × Unit) × (Unit × Unit × Unit × Unit)) :=
 .get (iter1 f35_L0 FUEL ((a2, a3, (0 : Int), ()), ((), (), a0, a1, ([] : List (List UInt8)), ([] : List ((Int × List UInt8 × Unit))), ()))) fun y1 =>
 .ret (((y1.2.2.2.1, ([] : List ((Int × List UInt8 × Unit))), ()), ()), ((), (), (), ()))
def f35_A : Nat → Option LoopAnn := fun n => annOf [(0, { head := { t := [.dead, .i .i64, .b, .vptr 64000000 0, .dead, .dead, .vptr 64000001 0, .i .i64, .dead, .dead, .dead, .dead, .dead, .dead, .dead, .dead, .dead, .dead, .dead, .dead, .dead, .dead, .dead, .dead, .dead, .dead, .dead, .dead, .dead, .dead, .dead, .dead, .dead, .dead, .dead, .dead, .dead, .dead, .dead, .dead, .dead, .dead, .dead, .dead, .dead, .dead], v := [(64000000, .var [.srf 0, .srf 1]), (64000001, .var [.srf 64000002, .srf 64000003]), (0, .arr .str), (1, .arr (.st (.cons (.int .i64) (.cons .str .nil)))), (64000002, .arr .str), (64000003, .arr (.st (.cons (.int .i64) (.cons .str .nil))))] }, out := { t := [.dead, .dead, .dead, .vptr 64000256 0, .dead, .dead, .vptr 64000257 0, .dead, .dead, .dead, .dead, .dead, .dead, .dead, .dead, .dead, .dead, .dead, .dead, .dead, .dead, .dead, .dead, .dead, .dead, .dead, .dead, .dead, .dead, .dead, .dead, .dead, .dead, .dead, .dead, .dead, .dead, .dead, .dead, .dead, .dead, .dead, .dead, .dead, .dead, .dead], v := [(64000256, .var [.srf 0, .srf 1]), (64000257, .var [.srf 64000258, .srf 64000259]), (0, .arr .str), (1, .arr (.st (.cons (.int .i64) (.cons .str .nil)))), (64000258, .arr .str), (64000259, .arr (.st (.cons (.int .i64) (.cons .str .nil))))] }, ret := none })] n
def k35 : Con := { f := 35, lend := true, its := [⟨false, true, [.own .str, .own (.st (.cons (.int .i64) (.cons .str .nil)))]⟩, ⟨false, false, [.i .i64]⟩, ⟨false, false, [.b]⟩], lay := [none, none, none], rs := [⟨false, true, [.own .str, .own (.st (.cons (.int .i64) (.cons .str .nil)))]⟩], F := fun x => .get (doneV x.1.1 x.1.2.1 x.2.1.1 x.2.2.1.1) fun y => .ret (((y.1, y.2, ()), ()), ((), (), (), ())) }
theorem f35_eq (x : itemsD k35.its) : bodyOut (cxOf []) (f35_A) (codeOf Tryz.f35) k35.its k35.lay Tryz.f35.ntmps k35.rs [.cell 6 32] x = f35_tree x.1.1 x.1.2.1 x.2.1.1 x.2.2.1.1 := by kernel_rfl
theorem f35_okp (hr : ∀ x : (List (List UInt8) × List (Int × List UInt8 × Unit) × Unit) × (Int × Unit) × (Bool × Unit) × Unit, itemsWF k35.its x → ∀ y, (k35.F x).eval = some y → (f35_tree x.1.1 x.1.2.1 x.2.1.1 x.2.2.1.1).eval = some y) : k35.Ok Tryz.prog :=
  con_fn [] trivial (by kernel_rfl) (codeOf_eq (by kernel_rfl)) (by kernel_rfl) (by kernel_rfl) (by kernel_rfl) f35_eq hr
theorem k35_ok : k35.Ok Tryz.prog := by
  refine f35_okp fun x hw y hy => ?_
  obtain ⟨⟨a, b, _⟩, ⟨m, _⟩, ⟨al, _⟩, _⟩ := x
  have hb : b.length ≤ BIG := hw.1.2.1.1
  change (Out.get (doneV a b m al) fun y => Out.ret (((y.1, (y.2, ())), ()), ((), ((), ((), ()))))).eval = some y at hy
  show (f35_tree a b m al).eval = some y
  unfold doneV at hy
  split at hy
  case isFalse => exact nomatch hy
  rename_i hf
  refine Eq.trans ?_ hy
  unfold f35_tree
  have := foldl_loop (f := f35_L0) (fun (s : List Str × Nat) i => s.2 = i ∧ s.1.length = a.length) (stepD fun i => al || bitE i m) b
    (fun s i => ((m, (al, (((i : Nat) : Int), ()))), ((), ((), (s.1, (b, (([] : List Str), (([] : List WriteD), ())))))))) (fun s => ((), ((), ((), (s.1, (b, (([] : List Str), (([] : List WriteD), ()))))))))
    (fun i hi s hs => by
      have g1 := wrap_succ (i := i) (by omega)
      have g2 := fitV_get hf hi
      have g3 : decide (0 ≤ b[i].1 ∧ b[i].1 < ((s.1.length : Nat) : Int)) = true := decide_eq_true (by rw [hs.2]; exact g2)
      have g4 : nth s.1 (Int.toNat b[i].1) = some (s.1[Int.toNat b[i].1]'(by rw [hs.2]; omega)) := List.getElem?_eq_getElem _
      have g5 := u64_n (i := i) (by omega)
      have g6 : decide (((i : Nat) : Int) < 0) = false := decide_eq_false (by omega)
      have g7 : stepD (fun i => al || bitE i m) s b[i] = (if (al || bitE i m) = true then s.1.set b[i].1.toNat b[i].2.1 else s.1, i + 1) := by simp only [stepD, hs.1]
      rw [g7]
      cases al with
      | true =>
        simp only [f35_L0, Out.eval, lt_t hi, inr_t hi, nth_get hi, Option.bind_some, cond_true, g1, g3, g4]
        rfl
      | false =>
        by_cases hm : 0 ≤ m
        · have g8 : decide (m ≥ 0) = true := decide_eq_true hm
          have g9 : nth b i = some b[i] := nth_get hi
          simp only [f35_L0, Out.eval, lt_t hi, inr_t hi, g9, Option.bind_some, cond_true, g1, g3, g4, g5, g6, g8, bitE, Int.toNat_natCast, Bool.true_and, Bool.false_or]
          cases hb : (IntKind.i64.wrap (((BitVec.ofInt (IntKind.bits IntKind.i64) (Int.fdiv m (2 ^ (min i (IntKind.bits IntKind.i64)))) &&& BitVec.ofInt (IntKind.bits IntKind.i64) (1 : Int)).toNat : Nat) : Int) == (1 : Int)) <;> rfl
        · have g8 : decide (m ≥ 0) = false := decide_eq_false hm
          simp only [f35_L0, Out.eval, lt_t hi, cond_true, g1, g8, bitE_not hm]
          rfl)
    (fun s hs => by simp [f35_L0, Out.eval])
    (fun i hi s hs => ⟨by simp [stepD, hs.1], by unfold stepD; split <;> simp [hs.2]⟩) hb (a, 0) ⟨rfl, rfl⟩
  exact (eval_get_some this).trans rfl
theorem diskOkV_fit {a : List Str} {b : List WriteD} (h : diskOkV a b = true) : fitV a b = true := by
  obtain ⟨h1, _, _, h4⟩ := diskOkV_parts h
  refine List.all_eq_true.2 fun x hx => ?_
  have := (h4 x hx).1
  rw [decide_eq_true this.1, decide_eq_true (by omega)]; rfl
def flushV (a : List Str) (b : List WriteD) : Option (List Str × List WriteD) := some (if diskOkV a b = true then applyV (fun _ => true) a b else [], [])
def fallV (a : List Str) (b : List WriteD) (m : Int) : Option (List Str × List WriteD) := some (if diskOkV a b = true then applyV (fun i => bitE i m) a b else [], [])
def fallPV (a : List Str) (b : List WriteD) (m : Int) : Option (List Str × List WriteD × Int) := some (if diskOkV a b = true then applyV (fun i => bitE i m) a b else [], [], m)
theorem doneV_ok {a : List Str} {b : List WriteD} (h : diskOkV a b = true) (m : Int) (al : Bool) : doneV a b m al = some (applyV (fun i => al || bitE i m) a b, []) := if_pos (diskOkV_fit h)
def f14_tree (a0 : List (List UInt8)) (a1 : List (Int × List UInt8 × Unit)) (a2 : Int) : Out (((List (List UInt8) × List (Int × List UInt8 × Unit) × Unit) × Unit) × (Unit × Unit × Unit)) :=
 .ite (!(diskOkV a0 a1))
 (.ret (((([] : List (List UInt8)), ([] : List ((Int × List UInt8 × Unit))), ()), ()), ((), (), ())))
 (.get (toDiskV a0 a1) fun y1 =>
 .get (doneV y1.1 y1.2 a2 false) fun y2 =>
 .ret (((y2.1, y2.2, ()), ()), ((), (), ())))
def k14 : Con := { f := 14, lend := true, its := [⟨false, true, [.ro .str, .ro (.st (.cons (.int .i64) (.cons .str .nil)))]⟩, ⟨false, false, [.i .i64]⟩], lay := [none, none], rs := [⟨false, true, [.own .str, .own (.st (.cons (.int .i64) (.cons .str .nil)))]⟩], F := fun x => .get (fallV x.1.1 x.1.2.1 x.2.1.1) fun y => .ret (((y.1, y.2, ()), ()), ((), (), ())) }
theorem f14_eq (x : itemsD k14.its) : bodyOut (cxOf [k32, k36, k35]) (fun _ => none) (codeOf Tryz.f14) k14.its k14.lay Tryz.f14.ntmps k14.rs [.cell 4 32] x = f14_tree x.1.1 x.1.2.1 x.2.1.1 := by kernel_rfl
theorem f14_ok (hr : ∀ x : (List (List UInt8) × List (Int × List UInt8 × Unit) × Unit) × (Int × Unit) × Unit, itemsWF k14.its x → (f14_tree x.1.1 x.1.2.1 x.2.1.1).eval = (k14.F x).eval) : k14.Ok Tryz.prog :=
  con_fn [k32, k36, k35] ⟨k32_ok, k36_ok, k35_ok, trivial⟩ (by kernel_rfl) (codeOf_eq (by kernel_rfl)) (by kernel_rfl) (by kernel_rfl) (by kernel_rfl) f14_eq fun x hw _ hy => (hr x hw).trans hy
theorem k14_ok : k14.Ok Tryz.prog := by
  refine f14_ok fun x _ => ?_
  obtain ⟨⟨a, b, _⟩, ⟨m, _⟩, _⟩ := x
  show (f14_tree a b m).eval = (Out.get (fallV a b m) fun y => Out.ret (((y.1, (y.2, ())), ()), ((), ((), ())))).eval
  unfold f14_tree fallV
  by_cases h : diskOkV a b = true
  · rw [eval_ite_f (by simp [h]), if_pos h, diskOkV_to h]
    refine (eval_get_some rfl).trans ?_
    rw [doneV_ok h]
    rfl
  · rw [eval_ite_t (by simp [h]), if_neg h]; rfl
def true1 (_ : Int) : Bool := true
abbrev f46b_S0 := (List ((Int × List UInt8 × Unit)) × Int × Int × Unit) × ((Int × Unit) × Unit × Unit × List (List UInt8) × List ((Int × List UInt8 × Unit)) × List (List UInt8) × List ((Int × List UInt8 × Unit)) × Unit)
def f46b_L0 (x : f46b_S0) : Out (Round f46b_S0 ((Unit) × (Unit × Unit × List (List UInt8) × List ((Int × List UInt8 × Unit)) × List (List UInt8) × List ((Int × List UInt8 × Unit)) × (Int × Unit) × Unit)) Empty) :=
 .ite (decide (x.1.2.2.1 < x.1.2.1))
 (.ite (decide (0 ≤ x.1.2.2.1))
 (.get (nth x.1.1 (Int.toNat x.1.2.2.1)) fun y1 =>
 .get (bitV x.1.2.2.1 x.2.1.1) fun y2 =>
 .ite y2.1
 (.ite (decide (0 ≤ y1.1 ∧ y1.1 < ((List.length x.2.2.2.2.2.2.1 : Nat) : Int)))
 (.get (nth x.2.2.2.2.2.2.1 (Int.toNat y1.1)) fun y3 =>
 .ret (.again ((x.1.1, x.1.2.1, (IntKind.i64.wrap (x.1.2.2.1 + (1 : Int))), ()), ((y2.2, ()), (), (), x.2.2.2.2.1, x.2.2.2.2.2.1, (List.set x.2.2.2.2.2.2.1 (Int.toNat y1.1) y1.2.1), x.2.2.2.2.2.2.2.1, ()))))
 .fail)
 (.ret (.again ((x.1.1, x.1.2.1, (IntKind.i64.wrap (x.1.2.2.1 + (1 : Int))), ()), ((y2.2, ()), (), (), x.2.2.2.2.1, x.2.2.2.2.2.1, x.2.2.2.2.2.2.1, x.2.2.2.2.2.2.2.1, ())))))
 .fail)
 (.ret (.out ((), ((), (), x.2.2.2.2.1, x.2.2.2.2.2.1, x.2.2.2.2.2.2.1, x.2.2.2.2.2.2.2.1, (x.2.1.1, ()), ()))))
def f46b_tree (a0 : List (List UInt8)) (a1 : List (Int × List UInt8 × Unit)) (a2 : Int) : Out (((List (List UInt8) × List (Int × List UInt8 × Unit) × Unit) × Unit) × (Unit × (Int × Unit) × Unit)) :=
 .ite (!(diskOkV a0 a1))
 (.ret (((([] : List (List UInt8)), ([] : List ((Int × List UInt8 × Unit))), ()), ()), ((), (a2, ()), ())))
 (.get (cloneV a0) fun y1 =>
 .get (iter1 f46b_L0 FUEL ((a1, ((List.length a1 : Nat) : Int), (0 : Int), ()), ((a2, ()), (), (), ([] : List (List UInt8)), ([] : List ((Int × List UInt8 × Unit))), y1, ([] : List ((Int × List UInt8 × Unit))), ()))) fun y2 =>
 .ret (((y2.2.2.2.2.2.1, y2.2.2.2.2.2.2.1, ()), ()), ((), (y2.2.2.2.2.2.2.2.1.1, ()), ())))
def f46b_A : Nat → Option LoopAnn := fun n => annOf [(0, { head := { t := [.dead, .fn 47 [2], .dead, .dead, .vptr 64000000 0, .vptr 64000001 0, .dead, .dead, .dead, .dead, .dead, .dead, .dead, .dead, .dead, .dead, .dead, .ro (.st (.cons (.int .i64) (.cons .str .nil))) (some 1), .i .i64, .i .i64, .dead, .dead, .dead, .dead, .dead, .dead, .dead, .dead, .dead, .dead, .dead, .dead, .dead, .dead, .dead, .dead], v := [(2, .var [.i .i64]), (64000000, .var [.srf 64000002, .srf 64000003]), (64000001, .var [.srf 64000004, .srf 64000005]), (64000002, .arr .str), (64000003, .arr (.st (.cons (.int .i64) (.cons .str .nil)))), (64000004, .arr .str), (64000005, .arr (.st (.cons (.int .i64) (.cons .str .nil))))] }, out := { t := [.dead, .fn 47 [2], .dead, .dead, .vptr 64000256 0, .vptr 64000257 0, .dead, .dead, .dead, .dead, .dead, .dead, .dead, .dead, .dead, .dead, .dead, .dead, .dead, .dead, .dead, .dead, .dead, .dead, .dead, .dead, .dead, .dead, .dead, .dead, .dead, .dead, .dead, .dead, .dead, .dead], v := [(64000256, .var [.srf 64000258, .srf 64000259]), (64000257, .var [.srf 64000260, .srf 64000261]), (64000258, .arr .str), (64000259, .arr (.st (.cons (.int .i64) (.cons .str .nil)))), (64000260, .arr .str), (64000261, .arr (.st (.cons (.int .i64) (.cons .str .nil)))), (2, .var [.i .i64])] }, ret := none })] n
def k46b : Con := { f := 46, lend := true, its := [⟨false, true, [.ro .str, .ro (.st (.cons (.int .i64) (.cons .str .nil)))]⟩, ⟨true, false, [.i .i64]⟩], lay := [none, some (47, 1)], rs := [⟨false, true, [.own .str, .own (.st (.cons (.int .i64) (.cons .str .nil)))]⟩], F := fun x => .get (fallPV x.1.1 x.1.2.1 x.2.1.1) fun y => .ret (((y.1, y.2.1, ()), ()), ((), (y.2.2, ()), ())) }
theorem f46b_eq (x : itemsD k46b.its) : bodyOut (cxOf [k43, k49, k47]) (f46b_A) (codeOf Tryz.f46) k46b.its k46b.lay Tryz.f46.ntmps k46b.rs [.cell 4 32] x = f46b_tree x.1.1 x.1.2.1 x.2.1.1 := by kernel_rfl
theorem f46b_ok (hr : ∀ x : (List (List UInt8) × List (Int × List UInt8 × Unit) × Unit) × (Int × Unit) × Unit, itemsWF k46b.its x → (f46b_tree x.1.1 x.1.2.1 x.2.1.1).eval = (k46b.F x).eval) : k46b.Ok Tryz.prog :=
  con_fn [k43, k49, k47] ⟨k43_ok, k49_ok, k47_ok, trivial⟩ (by kernel_rfl) (codeOf_eq (by kernel_rfl)) (by kernel_rfl) (by kernel_rfl) (by kernel_rfl) f46b_eq fun x hw _ hy => (hr x hw).trans hy
theorem k46b_ok : k46b.Ok Tryz.prog := by
  refine f46b_ok fun x _ => ?_
  obtain ⟨⟨a, b, _⟩, ⟨m, _⟩, _⟩ := x
  show (f46b_tree a b m).eval = (Out.get (fallPV a b m) fun y => Out.ret (((y.1, (y.2.1, ())), ()), ((), ((y.2.2, ()), ())))).eval
  unfold f46b_tree fallPV
  by_cases h : diskOkV a b = true
  · have hp := diskOkV_parts h
    have hf := diskOkV_fit h
    rw [eval_ite_f (by simp [h]), if_pos h]
    have hc : cloneV a = some a := lim_some (by rw [LIM_eq]; omega)
    rw [hc]
    refine (eval_get_some rfl).trans ?_
    have := foldl_loop (f := f46b_L0) (fun (s : List Str × Nat) i => s.2 = i ∧ s.1.length = a.length) (stepD fun i => bitE i m) b
      (fun s i => ((b, (((b.length : Nat) : Int), (((i : Nat) : Int), ()))), ((m, ()), ((), ((), (([] : List Str), (([] : List WriteD), (s.1, (([] : List WriteD), ()))))))))) (fun s => ((), ((), ((), (([] : List Str), (([] : List WriteD), (s.1, (([] : List WriteD), ((m, ()), ())))))))))
      (fun i hi s hs => by
        have g1 := wrap_succ (i := i) (by unfold BIG; omega)
        have g2 := fitV_get hf hi
        have g3 : decide (0 ≤ b[i].1 ∧ b[i].1 < ((s.1.length : Nat) : Int)) = true := decide_eq_true (by rw [hs.2]; exact g2)
        have g4 : nth s.1 (Int.toNat b[i].1) = some (s.1[Int.toNat b[i].1]'(by rw [hs.2]; omega)) := List.getElem?_eq_getElem _
        have g5 : bitV ((i : Nat) : Int) m = some (bitE i m, m) := if_neg (by omega)
        have g7 : stepD (fun i => bitE i m) s b[i] = (if bitE i m = true then s.1.set b[i].1.toNat b[i].2.1 else s.1, i + 1) := by simp only [stepD, hs.1]
        rw [g7]
        simp only [f46b_L0, Out.eval, lt_t hi, ge0, nth_get hi, Option.bind_some, cond_true, g1, g3, g4, g5]
        cases bitE i m <;> rfl)
      (fun s hs => by simp [f46b_L0, Out.eval])
      (fun i hi s hs => ⟨by simp [stepD, hs.1], by unfold stepD; split <;> simp [hs.2]⟩) (by unfold BIG; omega) (a, 0) ⟨rfl, rfl⟩
    exact (eval_get_some this).trans rfl
  · rw [eval_ite_t (by simp [h]), if_neg h]; rfl
def f20_tree (a0 : List (List UInt8)) (a1 : List (Int × List UInt8 × Unit)) (a2 : Int) : Out (((List (List UInt8) × List (Int × List UInt8 × Unit) × Unit) × Unit) × (Unit × Unit × Unit)) :=
 .get (fallPV a0 a1 a2) fun y1 =>
 .ret (((y1.1, y1.2.1, ()), ()), ((), (), ()))
def k20 : Con := { f := 20, lend := true, its := [⟨false, true, [.ro .str, .ro (.st (.cons (.int .i64) (.cons .str .nil)))]⟩, ⟨false, false, [.i .i64]⟩], lay := [none, none], rs := [⟨false, true, [.own .str, .own (.st (.cons (.int .i64) (.cons .str .nil)))]⟩], F := fun x => .get (fallV x.1.1 x.1.2.1 x.2.1.1) fun y => .ret (((y.1, y.2, ()), ()), ((), (), ())) }
theorem f20_eq (x : itemsD k20.its) : bodyOut (cxOf [k46b]) (fun _ => none) (codeOf Tryz.f20) k20.its k20.lay Tryz.f20.ntmps k20.rs [.cell 4 32] x = f20_tree x.1.1 x.1.2.1 x.2.1.1 := by kernel_rfl
theorem f20_ok (hr : ∀ x : (List (List UInt8) × List (Int × List UInt8 × Unit) × Unit) × (Int × Unit) × Unit, itemsWF k20.its x → (f20_tree x.1.1 x.1.2.1 x.2.1.1).eval = (k20.F x).eval) : k20.Ok Tryz.prog :=
  con_fn [k46b] ⟨k46b_ok, trivial⟩ (by kernel_rfl) (codeOf_eq (by kernel_rfl)) (by kernel_rfl) (by kernel_rfl) (by kernel_rfl) f20_eq fun x hw _ hy => (hr x hw).trans hy
theorem k20_ok : k20.Ok Tryz.prog := by
  refine f20_ok fun x _ => ?_
  obtain ⟨⟨a, b, _⟩, ⟨m, _⟩, _⟩ := x
  rfl

/-! ## What all laws on disks ask -/
theorem eqDiskV_self (a : List Str) (b : List WriteD) : eqDiskV a b a b = true := by simp [eqDiskV]
theorem eqWritesV_self (a : List WriteD) : eqWritesV a a = true := by simp [eqWritesV]
theorem up_nonneg {n : Nat} (h : n < BIG) : ¬ up 1 n < 0 := by rw [up_one h]; omega
theorem marks_disk {a : List Str} {b : List WriteD} (h : a.length + 2 * b.length < 4611686018427387904) : ¬ (markDiskV a b 1).1 < 0 ∧ (heldDiskV (markDiskV a b 1).2.1 (markDiskV a b 1).2.2 1 != (markDiskV a b 1).1) = false ∧ ¬ heldDiskV (markDiskV a b 1).2.1 (markDiskV a b 1).2.2 1 < 0 := by
  have := held_markDisk h
  refine ⟨by omega, by rw [this.1]; simp, by rw [this.1]; omega⟩
theorem mark_disk_up {a : List Str} {b : List WriteD} : (markDiskV a b 1).1 = up 1 (a.length + 2 * b.length) := by
  show up (up 1 a.length) (2 * b.length) = _
  rw [up_add]
theorem applyV_len (p : Nat → Bool) (a : List Str) (b : List WriteD) : (applyV p a b).length = a.length := by
  unfold applyV
  have : ∀ (b : List WriteD) (s : List Str × Nat), (b.foldl (stepD p) s).1.length = s.1.length := by
    intro b
    induction b with
    | nil => exact fun _ => rfl
    | cons x r ih =>
      intro s
      rw [List.foldl_cons, ih]
      unfold stepD
      split <;> simp
  exact this b (a, 0)
theorem flushV_some (a : List Str) (b : List WriteD) : ∃ r, flushV a b = some (r, []) ∧ r.length ≤ 7 := by
  unfold flushV
  refine ⟨_, rfl, ?_⟩
  split
  · rename_i h; rw [applyV_len]; exact Nat.le_of_eq (diskOkV_parts h).1
  · simp
theorem fallV_some (a : List Str) (b : List WriteD) (m : Int) : ∃ r, fallV a b m = some (r, []) ∧ r.length ≤ 7 := by
  unfold fallV
  refine ⟨_, rfl, ?_⟩
  split
  · rename_i h; rw [applyV_len]; exact Nat.le_of_eq (diskOkV_parts h).1
  · simp
theorem putV_some {a : List Str} {b l : List WriteD} (hl : l.length ≤ LIM) : ∃ r s t, putV a b l = some (r, s, t) ∧ r.length ≤ 7 ∧ s.length ≤ 20 := by
  unfold putV
  rw [if_pos hl]
  split
  · rename_i h
    have hp := diskOkV_parts h
    split
    · rename_i q; exact ⟨_, _, _, rfl, Nat.le_of_eq hp.1, by rw [List.length_append]; exact q.1⟩
    · exact ⟨_, _, _, rfl, Nat.le_of_eq hp.1, hp.2.1⟩
  · exact ⟨_, _, _, rfl, by simp, by simp⟩

end Go.Proofs.YtjcinikojcfebaaGreat.Dm
