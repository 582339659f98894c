/- Functions of the program, and what they compute. -/
import Derived.Test.YtjcinikojcfebaaA5
namespace Go.Proofs.Ytjcinikojcfebaa.Dm
open Go Go.ChangeShapes Go.WideShapes Go.ChangeAt Go.RowKit

/-! ## Copies of lists, by the library -/
def cloneV {α : Type} (a : List α) : Option (List α) := lim a a
def k196 : Con := { f := 196, lend := true, its := [⟨false, false, [.ro .str]⟩], lay := [none], rs := [⟨false, false, [.own .str]⟩], F := fun x => .get (cloneV x.1.1) fun y => .ret (((y, ()), ()), ((), ())) }
noncomputable def f196_c : Code := codeOf Try.f196
noncomputable def f196_B : Code := cSeqR (cSeqR f196_c)
noncomputable def f196_M : Code := cSeqL (cSeqR f196_c)
noncomputable def f196_X : Code := cThen (cSeqR f196_M)
theorem f196_code : codeOf Try.f196 = .seq (cSeqL f196_c) (.seq (.seq (.region 1 #[cOp (cSeqL f196_M) 0, cOp (cSeqL f196_M) 1] false) (.cond (.tmp 4) (.seq (.region 2 (cOps (cSeqL f196_X)) false) .ret) .skip)) f196_B) := by kernel_rfl
theorem f196_yes (x : (List (List UInt8) × Unit) × Unit) : askOut (cxOf []) (fun _ => none) (cSeqL f196_c) (.seq (.region 2 (cOps (cSeqL f196_X)) false) .ret) k196.its k196.lay Try.f196.ntmps k196.rs [.tmp 2] x = Out.ret ((((([] : List (List UInt8))), ()), ()), ((), ())) := by kernel_rfl
theorem f196_no (x : (List (List UInt8) × Unit) × Unit) : askOut (cxOf []) (fun _ => none) (cSeqL f196_c) f196_B k196.its k196.lay Try.f196.ntmps k196.rs [.tmp 2] x = Out.ite (decide (List.length ([] : List (List UInt8)) + List.length x.1.1 ≤ LIM)) (Out.ret (((([] : List (List UInt8)) ++ x.1.1, ()), ()), ((), ()))) Out.fail := by kernel_rfl
theorem k196_ok : k196.Ok Try.prog := by
  refine con_of_ask (cxOf'_ok tab_ok eqT_ok []) (callL_ok [] (fun K hK => by cases hK) rfl) mixed_ok (An := fun _ => none) (rtm := [.tmp 2]) (tk := some 0) (tid := 22) (te := 9) (l := fun x => x.1.1) (by kernel_rfl) (codeOf_eq (by kernel_rfl)) (by kernel_rfl) (by kernel_rfl) (by decide) (by decide) (by decide)
    f196_code (by kernel_rfl) (by kernel_rfl) (by kernel_rfl) (by kernel_rfl) (by kernel_rfl) (by kernel_rfl) (by kernel_rfl) (fun x => by kernel_rfl) (fun x => Nat.le_of_ble_eq_true (by kernel_rfl)) (fun x y _ hy => ?_) (fun x y _ hl hy => ?_)
  · obtain ⟨⟨a, _⟩, _⟩ := x
    refine (congrArg Out.eval (f196_no _)).trans ?_
    change (Out.get (cloneV a) fun y => Out.ret (((y, ()), ()), ((), ()))).eval = some y at hy
    unfold cloneV at hy
    by_cases h : a.length ≤ LIM
    · rw [lim_some h] at hy
      exact (eval_ite_t (decide_eq_true (show 0 + a.length ≤ LIM from (Nat.zero_add _).symm ▸ h))).trans hy
    · rw [lim_not h] at hy; exact nomatch hy
  · obtain ⟨⟨a, _⟩, _⟩ := x
    obtain rfl : a = [] := hl
    exact (congrArg Out.eval (f196_yes _)).trans hy
def k206 : Con := { f := 206, lend := true, its := [⟨false, false, [.ro (.st (.cons (.int .i64) (.cons .str .nil)))]⟩], lay := [none], rs := [⟨false, false, [.own (.st (.cons (.int .i64) (.cons .str .nil)))]⟩], F := fun x => .get (cloneV x.1.1) fun y => .ret (((y, ()), ()), ((), ())) }
noncomputable def f206_c : Code := codeOf Try.f206
noncomputable def f206_B : Code := cSeqR (cSeqR f206_c)
noncomputable def f206_M : Code := cSeqL (cSeqR f206_c)
noncomputable def f206_X : Code := cThen (cSeqR f206_M)
theorem f206_code : codeOf Try.f206 = .seq (cSeqL f206_c) (.seq (.seq (.region 1 #[cOp (cSeqL f206_M) 0, cOp (cSeqL f206_M) 1] false) (.cond (.tmp 4) (.seq (.region 2 (cOps (cSeqL f206_X)) false) .ret) .skip)) f206_B) := by kernel_rfl
theorem f206_yes (x : (List (Int × List UInt8 × Unit) × Unit) × Unit) : askOut (cxOf []) (fun _ => none) (cSeqL f206_c) (.seq (.region 2 (cOps (cSeqL f206_X)) false) .ret) k206.its k206.lay Try.f206.ntmps k206.rs [.tmp 2] x = Out.ret ((((([] : List ((Int × List UInt8 × Unit)))), ()), ()), ((), ())) := by kernel_rfl
theorem f206_no (x : (List (Int × List UInt8 × Unit) × Unit) × Unit) : askOut (cxOf []) (fun _ => none) (cSeqL f206_c) f206_B k206.its k206.lay Try.f206.ntmps k206.rs [.tmp 2] x = Out.ite (decide (List.length ([] : List ((Int × List UInt8 × Unit))) + List.length x.1.1 ≤ LIM)) (Out.ret (((([] : List ((Int × List UInt8 × Unit))) ++ x.1.1, ()), ()), ((), ()))) Out.fail := by kernel_rfl
theorem k206_ok : k206.Ok Try.prog := by
  refine con_of_ask (cxOf'_ok tab_ok eqT_ok []) (callL_ok [] (fun K hK => by cases hK) rfl) mixed_ok (An := fun _ => none) (rtm := [.tmp 2]) (tk := some 0) (tid := 23) (te := 66) (l := fun x => x.1.1) (by kernel_rfl) (codeOf_eq (by kernel_rfl)) (by kernel_rfl) (by kernel_rfl) (by decide) (by decide) (by decide)
    f206_code (by kernel_rfl) (by kernel_rfl) (by kernel_rfl) (by kernel_rfl) (by kernel_rfl) (by kernel_rfl) (by kernel_rfl) (fun x => by kernel_rfl) (fun x => Nat.le_of_ble_eq_true (by kernel_rfl)) (fun x y _ hy => ?_) (fun x y _ hl hy => ?_)
  · obtain ⟨⟨a, _⟩, _⟩ := x
    refine (congrArg Out.eval (f206_no _)).trans ?_
    change (Out.get (cloneV a) fun y => Out.ret (((y, ()), ()), ((), ()))).eval = some y at hy
    unfold cloneV at hy
    by_cases h : a.length ≤ LIM
    · rw [lim_some h] at hy
      exact (eval_ite_t (decide_eq_true (show 0 + a.length ≤ LIM from (Nat.zero_add _).symm ▸ h))).trans hy
    · rw [lim_not h] at hy; exact nomatch hy
  · obtain ⟨⟨a, _⟩, _⟩ := x
    obtain rfl : a = [] := hl
    exact (congrArg Out.eval (f206_yes _)).trans hy
def k223 : Con := { f := 223, lend := true, its := [⟨false, false, [.ro (.int .i64)]⟩], lay := [none], rs := [⟨false, false, [.own (.int .i64)]⟩], F := fun x => .get (cloneV x.1.1) fun y => .ret (((y, ()), ()), ((), ())) }
noncomputable def f223_c : Code := codeOf Try.f223
noncomputable def f223_B : Code := cSeqR (cSeqR f223_c)
noncomputable def f223_M : Code := cSeqL (cSeqR f223_c)
noncomputable def f223_X : Code := cThen (cSeqR f223_M)
theorem f223_code : codeOf Try.f223 = .seq (cSeqL f223_c) (.seq (.seq (.region 1 #[cOp (cSeqL f223_M) 0, cOp (cSeqL f223_M) 1] false) (.cond (.tmp 4) (.seq (.region 2 (cOps (cSeqL f223_X)) false) .ret) .skip)) f223_B) := by kernel_rfl
theorem f223_yes (x : (List Int × Unit) × Unit) : askOut (cxOf []) (fun _ => none) (cSeqL f223_c) (.seq (.region 2 (cOps (cSeqL f223_X)) false) .ret) k223.its k223.lay Try.f223.ntmps k223.rs [.tmp 2] x = Out.ret ((((([] : List (Int))), ()), ()), ((), ())) := by kernel_rfl
theorem f223_no (x : (List Int × Unit) × Unit) : askOut (cxOf []) (fun _ => none) (cSeqL f223_c) f223_B k223.its k223.lay Try.f223.ntmps k223.rs [.tmp 2] x = Out.ite (decide (List.length ([] : List (Int)) + List.length x.1.1 ≤ LIM)) (Out.ret (((([] : List (Int)) ++ x.1.1, ()), ()), ((), ()))) Out.fail := by kernel_rfl
theorem k223_ok : k223.Ok Try.prog := by
  refine con_of_ask (cxOf'_ok tab_ok eqT_ok []) (callL_ok [] (fun K hK => by cases hK) rfl) mixed_ok (An := fun _ => none) (rtm := [.tmp 2]) (tk := some 0) (tid := 30) (te := 3) (l := fun x => x.1.1) (by kernel_rfl) (codeOf_eq (by kernel_rfl)) (by kernel_rfl) (by kernel_rfl) (by decide) (by decide) (by decide)
    f223_code (by kernel_rfl) (by kernel_rfl) (by kernel_rfl) (by kernel_rfl) (by kernel_rfl) (by kernel_rfl) (by kernel_rfl) (fun x => by kernel_rfl) (fun x => Nat.le_of_ble_eq_true (by kernel_rfl)) (fun x y _ hy => ?_) (fun x y _ hl hy => ?_)
  · obtain ⟨⟨a, _⟩, _⟩ := x
    refine (congrArg Out.eval (f223_no _)).trans ?_
    change (Out.get (cloneV a) fun y => Out.ret (((y, ()), ()), ((), ()))).eval = some y at hy
    unfold cloneV at hy
    by_cases h : a.length ≤ LIM
    · rw [lim_some h] at hy
      exact (eval_ite_t (decide_eq_true (show 0 + a.length ≤ LIM from (Nat.zero_add _).symm ▸ h))).trans hy
    · rw [lim_not h] at hy; exact nomatch hy
  · obtain ⟨⟨a, _⟩, _⟩ := x
    obtain rfl : a = [] := hl
    exact (congrArg Out.eval (f223_yes _)).trans hy
/-! ## Changes of disks -/
def f156_tree (a0 : List (List UInt8)) (a1 : List (Int × List UInt8 × Unit)) : Out (((List (List UInt8) × List (Int × List UInt8 × Unit) × Unit) × Unit) × (Unit × Unit)) :=
 .ite (decide (List.length ([] : List (List UInt8)) + List.length a0 ≤ LIM))
 (.ite (decide (List.length ([] : List ((Int × List UInt8 × Unit))) + List.length a1 ≤ LIM))
 (.ret ((((([] : List (List UInt8)) ++ a0), (([] : List ((Int × List UInt8 × Unit))) ++ a1), ()), ()), ((), ())))
 .fail)
 .fail
def k156 : Con := { f := 156, lend := true, its := [⟨false, true, [.ro .str, .ro (.st (.cons (.int .i64) (.cons .str .nil)))]⟩], lay := [none], rs := [⟨false, true, [.own .str, .own (.st (.cons (.int .i64) (.cons .str .nil)))]⟩], F := fun x => .get (toDiskV x.1.1 x.1.2.1) fun y => .ret (((y.1, y.2, ()), ()), ((), ())) }
theorem f156_eq (x : itemsD k156.its) : bodyOut (cxOf []) (fun _ => none) (codeOf Try.f156) k156.its k156.lay Try.f156.ntmps k156.rs [.cell 2 25] x = f156_tree x.1.1 x.1.2.1 := by kernel_rfl
theorem f156_ok (hr : ∀ x : (List (List UInt8) × List (Int × List UInt8 × Unit) × Unit) × Unit, itemsWF k156.its x → (f156_tree x.1.1 x.1.2.1).eval = (k156.F x).eval) : k156.Ok Try.prog :=
  con_fn [] trivial (by kernel_rfl) (codeOf_eq (by kernel_rfl)) (by kernel_rfl) (by kernel_rfl) (by kernel_rfl) f156_eq fun x hw _ hy => (hr x hw).trans hy
theorem toDiskV_t {a : List Str} {b : List WriteD} (h1 : a.length ≤ LIM) (h2 : b.length ≤ LIM) : toDiskV a b = some (a, b) := if_pos ⟨h1, h2⟩
theorem toDiskV_f {a : List Str} {b : List WriteD} (h : ¬ (a.length ≤ LIM ∧ b.length ≤ LIM)) : toDiskV a b = none := if_neg h
theorem k156_ok : k156.Ok Try.prog := by
  refine f156_ok fun x _ => ?_
  obtain ⟨⟨a, b, _⟩, _⟩ := x
  show (f156_tree a b).eval = (Out.get (toDiskV a b) fun y => Out.ret (((y.1, (y.2, ())), ()), ((), ()))).eval
  unfold f156_tree toDiskV
  by_cases h1 : a.length ≤ LIM <;> by_cases h2 : b.length ≤ LIM <;> simp [Out.eval, h1, h2]
def f158_tree (a0 : List (List UInt8)) (a1 : List (Int × List UInt8 × Unit)) : Out (((List (List UInt8) × List (Int × List UInt8 × Unit) × Unit) × Unit) × (Unit × Unit)) :=
 .get (cloneV a0) fun y1 =>
 .get (cloneV a1) fun y2 =>
 .ret (((y1, y2, ()), ()), ((), ()))
def k158 : Con := { f := 158, lend := true, its := [⟨false, true, [.ro .str, .ro (.st (.cons (.int .i64) (.cons .str .nil)))]⟩], lay := [none], rs := [⟨false, true, [.own .str, .own (.st (.cons (.int .i64) (.cons .str .nil)))]⟩], F := fun x => .get (toDiskV x.1.1 x.1.2.1) fun y => .ret (((y.1, y.2, ()), ()), ((), ())) }
theorem f158_eq (x : itemsD k158.its) : bodyOut (cxOf [k196, k206]) (fun _ => none) (codeOf Try.f158) k158.its k158.lay Try.f158.ntmps k158.rs [.cell 2 25] x = f158_tree x.1.1 x.1.2.1 := by kernel_rfl
theorem f158_ok (hr : ∀ x : (List (List UInt8) × List (Int × List UInt8 × Unit) × Unit) × Unit, itemsWF k158.its x → (f158_tree x.1.1 x.1.2.1).eval = (k158.F x).eval) : k158.Ok Try.prog :=
  con_fn [k196, k206] ⟨k196_ok, k206_ok, trivial⟩ (by kernel_rfl) (codeOf_eq (by kernel_rfl)) (by kernel_rfl) (by kernel_rfl) (by kernel_rfl) f158_eq fun x hw _ hy => (hr x hw).trans hy
theorem k158_ok : k158.Ok Try.prog := by
  refine f158_ok fun x _ => ?_
  obtain ⟨⟨a, b, _⟩, _⟩ := x
  show (f158_tree a b).eval = (Out.get (toDiskV a b) fun y => Out.ret (((y.1, (y.2, ())), ()), ((), ()))).eval
  unfold f158_tree toDiskV cloneV
  by_cases h1 : a.length ≤ LIM
  · by_cases h2 : b.length ≤ LIM
    · simp [lim_some, h1, h2, Out.eval]
    · simp [lim_some, lim_not, h1, h2, Out.eval]
  · simp [lim_not, h1, Out.eval]
theorem diskOkV_parts {a : List Str} {b : List WriteD} (h : diskOkV a b = true) : a.length = 7 ∧ b.length ≤ 20 ∧ (∀ x ∈ a, x.length ≤ 600) ∧ ∀ x ∈ b, (0 ≤ x.1 ∧ x.1 < 7) ∧ x.2.1.length ≤ 600 := by
  unfold diskOkV at h
  obtain ⟨h, h4⟩ := Bool.and_eq_true_iff.1 h
  obtain ⟨h, h3⟩ := Bool.and_eq_true_iff.1 h
  obtain ⟨h1, h2⟩ := Bool.and_eq_true_iff.1 h
  refine ⟨of_decide_eq_true h1, of_decide_eq_true h2, fun x hx => of_decide_eq_true (List.all_eq_true.1 h3 x hx), fun x hx => ?_⟩
  have := List.all_eq_true.1 h4 x hx
  simpa [writeOkV] using this
theorem diskOkV_to {a : List Str} {b : List WriteD} (h : diskOkV a b = true) : toDiskV a b = some (a, b) := by
  obtain ⟨h1, h2, _⟩ := diskOkV_parts h
  exact toDiskV_t (by rw [LIM_eq]; omega) (by rw [LIM_eq]; omega)
/-- Writes that are put on a disk's list. -/
def putV (a : List Str) (b l : List WriteD) : Option (List Str × List WriteD × Bool) := if l.length ≤ LIM then
    (if diskOkV a b = true then (if b.length + l.length ≤ 20 ∧ l.all (fun x => writeOkV x.1 x.2.1) = true then some (a, b ++ l, true) else some (a, b, false)) else some ([], [], false))
  else none
abbrev f65_S0 := (List ((Int × List UInt8 × Unit)) × Int × Unit) × (Unit × Unit × List (List UInt8) × List ((Int × List UInt8 × Unit)) × List (List UInt8) × List ((Int × List UInt8 × Unit)) × Unit)
def f65_L0 (x : f65_S0) : Out (Round f65_S0 ((List ((Int × List UInt8 × Unit)) × Unit) × (Unit × Unit × List (List UInt8) × List ((Int × List UInt8 × Unit)) × List (List UInt8) × List ((Int × List UInt8 × Unit)) × Unit)) ((Bool × Unit) × (Unit × List (List UInt8) × List ((Int × List UInt8 × Unit)) × Unit))) :=
 .ite (decide (x.1.2.1 < ((List.length x.1.1 : Nat) : Int)))
 (.ite (decide (0 ≤ x.1.2.1))
 (.get (nth x.1.1 (Int.toNat x.1.2.1)) fun y1 =>
 .ite (!(writeOkV y1.1 y1.2.1))
 (.ret (.ret ((false, ()), ((), x.2.2.2.1, x.2.2.2.2.1, ()))))
 (.ret (.again ((x.1.1, (IntKind.i64.wrap (x.1.2.1 + (1 : Int))), ()), ((), (), x.2.2.2.1, x.2.2.2.2.1, x.2.2.2.2.2.1, x.2.2.2.2.2.2.1, ())))))
 .fail)
 (.ret (.out ((x.1.1, ()), ((), (), x.2.2.2.1, x.2.2.2.2.1, x.2.2.2.2.2.1, x.2.2.2.2.2.2.1, ()))))
def f65_tree (a0 : List (List UInt8)) (a1 : List (Int × List UInt8 × Unit)) (a2 : List (Int × List UInt8 × Unit)) : Out (((List (List UInt8) × List (Int × List UInt8 × Unit) × Unit) × (Bool × Unit) × Unit) × (Unit × Unit × Unit)) :=
 .ite (!(diskOkV a0 a1))
 (.ret (((([] : List (List UInt8)), ([] : List ((Int × List UInt8 × Unit))), ()), (false, ()), ()), ((), (), ())))
 (.get (toDiskV a0 a1) fun y1 =>
 .ite (decide (((List.length a2 : Nat) : Int) > (IntKind.i64.wrap ((20 : Int) - ((List.length y1.2 : Nat) : Int)))))
 (.ret (((y1.1, y1.2, ()), (false, ()), ()), ((), (), ())))
 (.get (iter f65_L0 FUEL ((a2, (0 : Int), ()), ((), (), y1.1, y1.2, ([] : List (List UInt8)), ([] : List ((Int × List UInt8 × Unit))), ()))) fun y2 => .alt y2 (fun y3 =>
 .ite (decide (List.length y3.2.2.2.2.1 + List.length y3.1.1 ≤ LIM))
 (.ret (((y3.2.2.2.1, (y3.2.2.2.2.1 ++ y3.1.1), ()), (true, ()), ()), ((), (), ())))
 .fail) (fun y4 =>
 .ret (((y4.2.2.1, y4.2.2.2.1, ()), (y4.1.1, ()), ()), ((), (), ())))))
def f65_A : Nat → Option LoopAnn := fun n => annOf [(0, { head := { t := [.dead, .ro (.st (.cons (.int .i64) (.cons .str .nil))) (some 2), .vptr 64000000 0, .dead, .vptr 64000001 0, .dead, .i .i64, .dead, .dead, .dead, .dead, .dead, .dead, .dead, .dead, .dead, .dead, .dead, .dead, .dead, .dead, .dead, .dead, .dead, .dead, .dead, .dead, .dead, .dead, .dead, .dead, .dead, .dead, .dead, .dead, .dead, .dead, .dead, .dead, .dead], v := [(64000000, .var [.srf 64000002, .srf 64000003]), (64000001, .var [.srf 64000004, .srf 64000005]), (64000002, .arr .str), (64000003, .arr (.st (.cons (.int .i64) (.cons .str .nil)))), (64000004, .arr .str), (64000005, .arr (.st (.cons (.int .i64) (.cons .str .nil))))] }, out := { t := [.dead, .ro (.st (.cons (.int .i64) (.cons .str .nil))) (some 2), .vptr 64000256 0, .dead, .vptr 64000257 0, .dead, .dead, .dead, .dead, .dead, .dead, .dead, .dead, .dead, .dead, .dead, .dead, .dead, .dead, .dead, .dead, .dead, .dead, .dead, .dead, .dead, .dead, .dead, .dead, .dead, .dead, .dead, .dead, .dead, .dead, .dead, .dead, .dead, .dead, .dead], v := [(64000256, .var [.srf 64000258, .srf 64000259]), (64000257, .var [.srf 64000260, .srf 64000261]), (64000258, .arr .str), (64000259, .arr (.st (.cons (.int .i64) (.cons .str .nil)))), (64000260, .arr .str), (64000261, .arr (.st (.cons (.int .i64) (.cons .str .nil))))] }, ret := some { t := [.dead, .dead, .dead, .dead, .vptr 64000512 0, .b, .dead, .dead, .dead, .dead, .dead, .dead, .dead, .dead, .dead, .dead, .dead, .dead, .dead, .dead, .dead, .dead, .dead, .dead, .dead, .dead, .dead, .dead, .dead, .dead, .dead, .dead, .dead, .dead, .dead, .dead, .dead, .dead, .dead, .dead], v := [(64000512, .var [.srf 64000513, .srf 64000514]), (64000513, .arr .str), (64000514, .arr (.st (.cons (.int .i64) (.cons .str .nil))))] } })] n
def k65 : Con := { f := 65, lend := true, its := [⟨false, true, [.ro .str, .ro (.st (.cons (.int .i64) (.cons .str .nil)))]⟩, ⟨false, false, [.ro (.st (.cons (.int .i64) (.cons .str .nil)))]⟩], lay := [none, none], rs := [⟨false, true, [.own .str, .own (.st (.cons (.int .i64) (.cons .str .nil)))]⟩, ⟨false, false, [.b]⟩], F := fun x => .get (putV x.1.1 x.1.2.1 x.2.1.1) fun y => .ret (((y.1, y.2.1, ()), (y.2.2, ()), ()), ((), (), ())) }
theorem f65_eq (x : itemsD k65.its) : bodyOut (cxOf [k37, k156, k124]) (f65_A) (codeOf Try.f65) k65.its k65.lay Try.f65.ntmps k65.rs [.cell 4 25, .tmp 5] x = f65_tree x.1.1 x.1.2.1 x.2.1.1 := by kernel_rfl
theorem f65_okp (hr : ∀ x : (List (List UInt8) × List (Int × List UInt8 × Unit) × Unit) × (List (Int × List UInt8 × Unit) × Unit) × Unit, itemsWF k65.its x → ∀ y, (k65.F x).eval = some y → (f65_tree x.1.1 x.1.2.1 x.2.1.1).eval = some y) : k65.Ok Try.prog :=
  con_fn [k37, k156, k124] ⟨k37_ok, k156_ok, k124_ok, trivial⟩ (by kernel_rfl) (codeOf_eq (by kernel_rfl)) (by kernel_rfl) (by kernel_rfl) (by kernel_rfl) f65_eq hr
theorem k65_ok : k65.Ok Try.prog := by
  refine f65_okp fun x _ y hy => ?_
  obtain ⟨⟨a, b, _⟩, ⟨l, _⟩, _⟩ := x
  change (Out.get (putV a b l) fun y => Out.ret (((y.1, (y.2.1, ())), ((y.2.2, ()), ())), ((), ((), ())))).eval = some y at hy
  show (f65_tree a b l).eval = some y
  unfold putV at hy
  split at hy
  case isFalse => exact nomatch hy
  rename_i hl
  refine Eq.trans ?_ hy
  unfold f65_tree
  by_cases h : diskOkV a b = true
  · have hp := diskOkV_parts h
    rw [eval_ite_f (by simp [h]), if_pos h, diskOkV_to h]
    refine (eval_get_some rfl).trans ?_
    have w1 : IntKind.i64.wrap ((20 : Int) - ((b.length : Nat) : Int)) = 20 - ((b.length : Nat) : Int) := wrap_id (by omega) (by omega)
    simp only [w1]
    by_cases hc : b.length + l.length ≤ 20
    · rw [eval_ite_f (decide_eq_false (by omega))]
      have := all_loop (f := f65_L0) l (fun x : WriteD => writeOkV x.1 x.2.1) (fun i => ((l, (((i : Nat) : Int), ())), ((), ((), (a, (b, (([] : List Str), (([] : List WriteD), ())))))))) (y := ((l, ()), ((), ((), (a, (b, (([] : List Str), (([] : List WriteD), ())))))))) (z := ((false, ()), ((), (a, (b, ())))))
        (fun i hi hp => by
          have w1 := wrap_succ (i := i) (by unfold BIG; rw [LIM_eq] at hl; omega)
          simp only [f65_L0, Out.eval, lt_t hi, ge0, nth_get hi, Option.bind_some, cond_true, hp, w1]
          rfl)
        (fun i hi hp => by
          simp only [f65_L0, Out.eval, lt_t hi, ge0, nth_get hi, Option.bind_some, cond_true, hp]
          rfl)
        (by simp [f65_L0, Out.eval]) (by unfold BIG; rw [LIM_eq] at hl; omega)
      refine (eval_get_some this).trans ?_
      by_cases q : l.all (fun x => writeOkV x.1 x.2.1) = true
      · rw [if_pos q, if_pos ⟨hc, q⟩, eval_alt_l, eval_ite_t (decide_eq_true (by rw [LIM_eq]; simp only; omega))]; rfl
      · rw [if_neg q, if_neg (fun z => q z.2)]; rfl
    · rw [eval_ite_t (decide_eq_true (by omega)), if_neg (fun q => hc q.1)]; rfl
  · rw [eval_ite_t (by simp [h]), if_neg h]; rfl
def f159_tree (a0 : Int) (a1 : List UInt8) : Out (((Bool × Unit) × Unit) × (Unit × Unit)) :=
 .ret ((((!(writeOkV a0 a1)), ()), ()), ((), ()))
def k159 : Con := { f := 159, lend := true, its := [⟨false, true, [.i .i64, .s]⟩], lay := [none], rs := [⟨false, false, [.b]⟩], F := fun x => .ret ((((writeNotV x.1.1 x.1.2.1), ()), ()), ((), ())) }
theorem f159_eq (x : itemsD k159.its) : bodyOut (cxOf [k129]) (fun _ => none) (codeOf Try.f159) k159.its k159.lay Try.f159.ntmps k159.rs [.tmp 2] x = f159_tree x.1.1 x.1.2.1 := by kernel_rfl
theorem f159_ok (hr : ∀ x : (Int × List UInt8 × Unit) × Unit, itemsWF k159.its x → (f159_tree x.1.1 x.1.2.1).eval = (k159.F x).eval) : k159.Ok Try.prog :=
  con_fn [k129] ⟨k129_ok, trivial⟩ (by kernel_rfl) (codeOf_eq (by kernel_rfl)) (by kernel_rfl) (by kernel_rfl) (by kernel_rfl) f159_eq fun x hw _ hy => (hr x hw).trans hy
theorem k159_ok : k159.Ok Try.prog := f159_ok fun _ _ => rfl
abbrev f199b_S0 := (List ((Int × List UInt8 × Unit)) × Int × Int × Unit) × (Unit)
def f199b_L0 (x : f199b_S0) : Out (Round f199b_S0 ((Unit) × (Unit)) ((Int × Unit) × (Unit))) :=
 .ite (decide (x.1.2.2.1 < x.1.2.1))
 (.ite (decide (0 ≤ x.1.2.2.1))
 (.get (nth x.1.1 (Int.toNat x.1.2.2.1)) fun y1 =>
 .ite (writeNotV y1.1 y1.2.1)
 (.ret (.ret ((x.1.2.2.1, ()), ())))
 (.ret (.again ((x.1.1, x.1.2.1, (IntKind.i64.wrap (x.1.2.2.1 + (1 : Int))), ()), ()))))
 .fail)
 (.ret (.out ((), ())))
def f199b_tree (a0 : List (Int × List UInt8 × Unit)) : Out (((Int × Unit) × Unit) × (Unit × Unit)) :=
 .get (iter f199b_L0 FUEL ((a0, ((List.length a0 : Nat) : Int), (0 : Int), ()), ())) fun y1 => .alt y1 (fun y2 =>
 .ret ((((-1 : Int), ()), ()), ((), ()))) (fun y3 =>
 .ret (((y3.1.1, ()), ()), ((), ())))
def f199b_A : Nat → Option LoopAnn := fun n => annOf [(0, { head := { t := [.ro (.st (.cons (.int .i64) (.cons .str .nil))) (some 0), .fn 159 [], .dead, .dead, .dead, .dead, .dead, .i .i64, .i .i64, .dead, .dead, .dead, .dead, .dead, .dead, .dead, .dead, .dead, .dead], v := [] }, out := { t := [.dead, .dead, .dead, .dead, .dead, .dead, .dead, .dead, .dead, .dead, .dead, .dead, .dead, .dead, .dead, .dead, .dead, .dead, .dead], v := [] }, ret := some { t := [.dead, .dead, .dead, .dead, .i .i64, .dead, .dead, .dead, .dead, .dead, .dead, .dead, .dead, .dead, .dead, .dead, .dead, .dead, .dead], v := [] } })] n
def k199b : Con := { f := 199, lend := true, its := [⟨false, false, [.ro (.st (.cons (.int .i64) (.cons .str .nil)))]⟩], lay := [none, some (159, 0)], rs := [⟨false, false, [.i .i64]⟩], F := fun x => .ret ((((indexBadV x.1.1), ()), ()), ((), ())) }
theorem f199b_eq (x : itemsD k199b.its) : bodyOut (cxOf [k159]) (f199b_A) (codeOf Try.f199) k199b.its k199b.lay Try.f199.ntmps k199b.rs [.tmp 4] x = f199b_tree x.1.1 := by kernel_rfl
theorem f199b_ok (hr : ∀ x : (List (Int × List UInt8 × Unit) × Unit) × Unit, itemsWF k199b.its x → (f199b_tree x.1.1).eval = (k199b.F x).eval) : k199b.Ok Try.prog :=
  con_fn [k159] ⟨k159_ok, trivial⟩ (by kernel_rfl) (codeOf_eq (by kernel_rfl)) (by kernel_rfl) (by kernel_rfl) (by kernel_rfl) f199b_eq fun x hw _ hy => (hr x hw).trans hy
theorem k199b_ok : k199b.Ok Try.prog := by
  refine f199b_ok fun x hw => ?_
  obtain ⟨⟨a, _⟩, _⟩ := x
  have ha : a.length ≤ BIG := hw.1.1.1
  show (f199b_tree a).eval = some (((indexBadV a, ()), ()), ((), ()))
  unfold f199b_tree indexBadV
  have := idx_loop (f := f199b_L0) a (fun x : WriteD => writeNotV x.1 x.2.1) (fun i => ((a, (((a.length : Nat) : Int), (((i : Nat) : Int), ()))), ())) (y := ((), ())) (z := fun i => ((((i : Nat) : Int), ()), ()))
    (fun i hi hp => by
      have g1 := wrap_succ (i := i) (by omega)
      simp [f199b_L0, Out.eval, hi, g1, hp])
    (fun i hi hp => by simp [f199b_L0, Out.eval, hi, hp])
    (by simp [f199b_L0, Out.eval]) ha
  refine (eval_get_some this).trans ?_
  cases a.findIdx? (fun x : WriteD => writeNotV x.1 x.2.1) <;> rfl
def f127b_tree (a0 : List (Int × List UInt8 × Unit)) : Out (((Bool × Unit) × Unit) × (Unit × Unit)) :=
 .ret ((((decide ((indexBadV a0) ≥ (0 : Int))), ()), ()), ((), ()))
def k127b : Con := { f := 127, lend := true, its := [⟨false, false, [.ro (.st (.cons (.int .i64) (.cons .str .nil)))]⟩], lay := [none, some (159, 0)], rs := [⟨false, false, [.b]⟩], F := fun x => .ret ((((anyBadV x.1.1), ()), ()), ((), ())) }
theorem f127b_eq (x : itemsD k127b.its) : bodyOut (cxOf [k199b]) (fun _ => none) (codeOf Try.f127) k127b.its k127b.lay Try.f127.ntmps k127b.rs [.tmp 4] x = f127b_tree x.1.1 := by kernel_rfl
theorem f127b_ok (hr : ∀ x : (List (Int × List UInt8 × Unit) × Unit) × Unit, itemsWF k127b.its x → (f127b_tree x.1.1).eval = (k127b.F x).eval) : k127b.Ok Try.prog :=
  con_fn [k199b] ⟨k199b_ok, trivial⟩ (by kernel_rfl) (codeOf_eq (by kernel_rfl)) (by kernel_rfl) (by kernel_rfl) (by kernel_rfl) f127b_eq fun x hw _ hy => (hr x hw).trans hy
theorem k127b_ok : k127b.Ok Try.prog := by
  refine f127b_ok fun x _ => ?_
  obtain ⟨⟨a, _⟩, _⟩ := x
  show (f127b_tree a).eval = some (((anyBadV a, ()), ()), ((), ()))
  unfold f127b_tree anyBadV indexBadV
  rw [idxV_ge]
  rfl
theorem anyBadV_not (l : List WriteD) : anyBadV l = !l.all (fun x => writeOkV x.1 x.2.1) := by
  have : l.all (fun x => writeOkV x.1 x.2.1) = !anyBadV l := (not_any l _).symm
  rw [this, Bool.not_not]
def f67_tree (a0 : List (List UInt8)) (a1 : List (Int × List UInt8 × Unit)) (a2 : List (Int × List UInt8 × Unit)) : Out (((List (List UInt8) × List (Int × List UInt8 × Unit) × Unit) × (Bool × Unit) × Unit) × (Unit × Unit × Unit)) :=
 .ite (!(diskOkV a0 a1))
 (.ret (((([] : List (List UInt8)), ([] : List ((Int × List UInt8 × Unit))), ()), (false, ()), ()), ((), (), ())))
 (.get (toDiskV a0 a1) fun y1 =>
 .ite ((decide ((IntKind.i64.wrap (((List.length a1 : Nat) : Int) + ((List.length a2 : Nat) : Int))) > (20 : Int))) == false)
 (.ite (anyBadV a2)
 (.ret (((y1.1, y1.2, ()), (false, ()), ()), ((), (), ())))
 (.ite (decide (List.length y1.2 + List.length a2 ≤ LIM))
 (.ret (((y1.1, (y1.2 ++ a2), ()), (true, ()), ()), ((), (), ())))
 .fail))
 (.ret (((y1.1, y1.2, ()), (false, ()), ()), ((), (), ()))))
def k67 : Con := { f := 67, lend := true, its := [⟨false, true, [.ro .str, .ro (.st (.cons (.int .i64) (.cons .str .nil)))]⟩, ⟨false, false, [.ro (.st (.cons (.int .i64) (.cons .str .nil)))]⟩], lay := [none, none], rs := [⟨false, true, [.own .str, .own (.st (.cons (.int .i64) (.cons .str .nil)))]⟩, ⟨false, false, [.b]⟩], F := fun x => .get (putV x.1.1 x.1.2.1 x.2.1.1) fun y => .ret (((y.1, y.2.1, ()), (y.2.2, ()), ()), ((), (), ())) }
theorem f67_eq (x : itemsD k67.its) : bodyOut (cxOf [k39, k158, k127b]) (fun _ => none) (codeOf Try.f67) k67.its k67.lay Try.f67.ntmps k67.rs [.cell 4 25, .tmp 5] x = f67_tree x.1.1 x.1.2.1 x.2.1.1 := by kernel_rfl
theorem f67_okp (hr : ∀ x : (List (List UInt8) × List (Int × List UInt8 × Unit) × Unit) × (List (Int × List UInt8 × Unit) × Unit) × Unit, itemsWF k67.its x → ∀ y, (k67.F x).eval = some y → (f67_tree x.1.1 x.1.2.1 x.2.1.1).eval = some y) : k67.Ok Try.prog :=
  con_fn [k39, k158, k127b] ⟨k39_ok, k158_ok, k127b_ok, trivial⟩ (by kernel_rfl) (codeOf_eq (by kernel_rfl)) (by kernel_rfl) (by kernel_rfl) (by kernel_rfl) f67_eq hr
theorem k67_ok : k67.Ok Try.prog := by
  refine f67_okp fun x _ y hy => ?_
  obtain ⟨⟨a, b, _⟩, ⟨l, _⟩, _⟩ := x
  change (Out.get (putV a b l) fun y => Out.ret (((y.1, (y.2.1, ())), ((y.2.2, ()), ())), ((), ((), ())))).eval = some y at hy
  show (f67_tree a b l).eval = some y
  unfold putV at hy
  split at hy
  case isFalse => exact nomatch hy
  rename_i hl
  refine Eq.trans ?_ hy
  unfold f67_tree
  rw [LIM_eq] at hl
  by_cases h : diskOkV a b = true
  · have hp := diskOkV_parts h
    rw [eval_ite_f (by simp [h]), if_pos h, diskOkV_to h]
    refine (eval_get_some rfl).trans ?_
    have w1 : IntKind.i64.wrap (((b.length : Nat) : Int) + ((l.length : Nat) : Int)) = ((b.length : Nat) : Int) + ((l.length : Nat) : Int) := wrap_id (by omega) (by omega)
    rw [w1, anyBadV_not]
    by_cases hc : b.length + l.length ≤ 20
    · rw [eval_ite_t (by rw [decide_eq_false (by omega)]; rfl)]
      by_cases q : l.all (fun x => writeOkV x.1 x.2.1) = true
      · rw [eval_ite_f (by rw [q]; rfl), if_pos ⟨hc, q⟩, eval_ite_t (decide_eq_true (by rw [LIM_eq]; simp only; omega))]; rfl
      · rw [eval_ite_t (by rw [Bool.eq_false_iff.2 q]; rfl), if_neg (fun z => q z.2)]; rfl
    · rw [eval_ite_f (by rw [decide_eq_true (by omega)]; rfl), if_neg (fun z => hc z.1)]; rfl
  · rw [eval_ite_t (by simp [h]), if_neg h]; rfl

/-! ## Writes under way that are done -/
/-- Is this bit of a mask set? -/
def bitE (i : Nat) (m : Int) : Bool := decide (m ≥ 0) && (IntKind.i64.wrap (((BitVec.ofInt (IntKind.bits IntKind.i64) (Int.fdiv m (2 ^ (min i (IntKind.bits IntKind.i64)))) &&& BitVec.ofInt (IntKind.bits IntKind.i64) (1 : Int)).toNat : Nat) : Int) == (1 : Int))
def bitV (i m : Int) : Option (Bool × Int) := if i < 0 then none else some (bitE i.toNat m, m)
/-- The blocks behind those writes for which p holds. -/
def stepD (p : Nat → Bool) (s : List Str × Nat) (x : WriteD) : List Str × Nat := (if p s.2 = true then s.1.set x.1.toNat x.2.1 else s.1, s.2 + 1)
def applyV (p : Nat → Bool) (a : List Str) (b : List WriteD) : List Str := (b.foldl (stepD p) (a, 0)).1
def fitV (a : List Str) (b : List WriteD) : Bool := b.all fun x => decide (0 ≤ x.1) && decide (x.1 < (a.length : Int))
def doneV (a : List Str) (b : List WriteD) (m : Int) (all : Bool) : Option (List Str × List WriteD) := if fitV a b = true then some (applyV (fun i => all || bitE i m) a b, []) else none
theorem bitE_not {i : Nat} {m : Int} (h : ¬ 0 ≤ m) : bitE i m = false := by unfold bitE; rw [decide_eq_false h]; rfl
def f145_tree (a0 : Int) (a1 : Int) : Out (((Bool × Unit) × Unit) × (Unit × (Int × Unit) × Unit)) :=
 .ite ((decide (a1 ≥ (0 : Int))) == true)
 (.ite (decide (a0 < 0))
 .fail
 (.ret ((((((IntKind.i64.wrap (((BitVec.ofInt (IntKind.bits IntKind.i64) (Int.fdiv a1 (2 ^ (min (Int.toNat a0) (IntKind.bits IntKind.i64)))) &&& BitVec.ofInt (IntKind.bits IntKind.i64) (1 : Int)).toNat : Int))) == (1 : Int))), ()), ()), ((), (a1, ()), ()))))
 (.ret (((false, ()), ()), ((), (a1, ()), ())))
def k145 : Con := { f := 145, lend := true, its := [⟨false, false, [.i .i64]⟩, ⟨true, false, [.i .i64]⟩], lay := [none, none], rs := [⟨false, false, [.b]⟩], F := fun x => .get (bitV x.1.1 x.2.1.1) fun y => .ret (((y.1, ()), ()), ((), (y.2, ()), ())) }
theorem f145_eq (x : itemsD k145.its) : bodyOut (cxOf []) (fun _ => none) (codeOf Try.f145) k145.its k145.lay Try.f145.ntmps k145.rs [.tmp 3] x = f145_tree x.1.1 x.2.1.1 := by kernel_rfl
theorem f145_okp (hr : ∀ x : (Int × Unit) × (Int × Unit) × Unit, itemsWF k145.its x → ∀ y, (k145.F x).eval = some y → (f145_tree x.1.1 x.2.1.1).eval = some y) : k145.Ok Try.prog :=
  con_fn [] trivial (by kernel_rfl) (codeOf_eq (by kernel_rfl)) (by kernel_rfl) (by kernel_rfl) (by kernel_rfl) f145_eq hr
theorem k145_ok : k145.Ok Try.prog := by
  refine f145_okp fun x _ y hy => ?_
  obtain ⟨⟨i, _⟩, ⟨m, _⟩, _⟩ := x
  change (Out.get (bitV i m) fun y => Out.ret (((y.1, ()), ()), ((), ((y.2, ()), ())))).eval = some y at hy
  show (f145_tree i m).eval = some y
  unfold bitV at hy
  split at hy
  case isTrue => exact nomatch hy
  rename_i hi
  refine Eq.trans ?_ hy
  unfold f145_tree
  by_cases h : 0 ≤ m
  · rw [eval_ite_t (by rw [decide_eq_true h]; rfl), eval_ite_f (decide_eq_false hi)]
    simp only [bitE, decide_eq_true h, Bool.true_and]
    rfl
  · rw [eval_ite_f (by rw [decide_eq_false h]; rfl), bitE_not h]; rfl
theorem fitV_get {a : List Str} {b : List WriteD} (h : fitV a b = true) {i : Nat} (hi : i < b.length) : 0 ≤ b[i].1 ∧ b[i].1 < (a.length : Int) := by
  have := List.all_eq_true.1 h _ (List.getElem_mem hi)
  simpa using this
theorem u64_n {i : Nat} (h : i ≤ BIG) : IntKind.u64.wrap ((i : Nat) : Int) = ((i : Nat) : Int) := by
  unfold BIG at h
  simp [IntKind.wrap, IntKind.bits, IntKind.signed]
  omega
abbrev f161_S0 := (Int × Bool × Int × Unit) × (Unit × Unit × List (List UInt8) × List ((Int × List UInt8 × Unit)) × List (List UInt8) × List ((Int × List UInt8 × Unit)) × Unit)
def f161_L0 (x : f161_S0) : Out (Round f161_S0 ((Unit) × (Unit × Unit × List (List UInt8) × List ((Int × List UInt8 × Unit)) × List (List UInt8) × List ((Int × List UInt8 × Unit)) × Unit)) Empty) :=
 .ite (decide (x.1.2.2.1 < ((List.length x.2.2.2.2.1 : Nat) : Int)))
 (.ite (x.1.2.1 == false)
 (.ite ((decide (x.1.1 ≥ (0 : Int))) == true)
 (.ite (decide ((IntKind.u64.wrap x.1.2.2.1) < 0))
 .fail
 (.ite (((IntKind.i64.wrap (((BitVec.ofInt (IntKind.bits IntKind.i64) (Int.fdiv x.1.1 (2 ^ (min (Int.toNat (IntKind.u64.wrap x.1.2.2.1)) (IntKind.bits IntKind.i64)))) &&& BitVec.ofInt (IntKind.bits IntKind.i64) (1 : Int)).toNat : Int))) == (1 : Int)))
 (.ite (decide (0 ≤ x.1.2.2.1 ∧ x.1.2.2.1 < ((List.length x.2.2.2.2.1 : Nat) : Int)))
 (.get (nth x.2.2.2.2.1 (Int.toNat x.1.2.2.1)) fun y1 =>
 .ite (decide (0 ≤ x.1.2.2.1 ∧ x.1.2.2.1 < ((List.length x.2.2.2.2.1 : Nat) : Int)))
 (.get (nth x.2.2.2.2.1 (Int.toNat x.1.2.2.1)) fun y2 =>
 .ite (decide (0 ≤ y1.1 ∧ y1.1 < ((List.length x.2.2.2.1 : Nat) : Int)))
 (.get (nth x.2.2.2.1 (Int.toNat y1.1)) fun y3 =>
 .ret (.again ((x.1.1, x.1.2.1, (IntKind.i64.wrap (x.1.2.2.1 + (1 : Int))), ()), ((), (), (List.set x.2.2.2.1 (Int.toNat y1.1) y2.2.1), x.2.2.2.2.1, x.2.2.2.2.2.1, x.2.2.2.2.2.2.1, ()))))
 .fail)
 .fail)
 .fail)
 (.ret (.again ((x.1.1, x.1.2.1, (IntKind.i64.wrap (x.1.2.2.1 + (1 : Int))), ()), ((), (), x.2.2.2.1, x.2.2.2.2.1, x.2.2.2.2.2.1, x.2.2.2.2.2.2.1, ()))))))
 (.ret (.again ((x.1.1, x.1.2.1, (IntKind.i64.wrap (x.1.2.2.1 + (1 : Int))), ()), ((), (), x.2.2.2.1, x.2.2.2.2.1, x.2.2.2.2.2.1, x.2.2.2.2.2.2.1, ())))))
 (.ite (decide (0 ≤ x.1.2.2.1 ∧ x.1.2.2.1 < ((List.length x.2.2.2.2.1 : Nat) : Int)))
 (.get (nth x.2.2.2.2.1 (Int.toNat x.1.2.2.1)) fun y4 =>
 .ite (decide (0 ≤ x.1.2.2.1 ∧ x.1.2.2.1 < ((List.length x.2.2.2.2.1 : Nat) : Int)))
 (.get (nth x.2.2.2.2.1 (Int.toNat x.1.2.2.1)) fun y5 =>
 .ite (decide (0 ≤ y4.1 ∧ y4.1 < ((List.length x.2.2.2.1 : Nat) : Int)))
 (.get (nth x.2.2.2.1 (Int.toNat y4.1)) fun y6 =>
 .ret (.again ((x.1.1, x.1.2.1, (IntKind.i64.wrap (x.1.2.2.1 + (1 : Int))), ()), ((), (), (List.set x.2.2.2.1 (Int.toNat y4.1) y5.2.1), x.2.2.2.2.1, x.2.2.2.2.2.1, x.2.2.2.2.2.2.1, ()))))
 .fail)
 .fail)
 .fail))
 (.ret (.out ((), ((), (), x.2.2.2.1, x.2.2.2.2.1, x.2.2.2.2.2.1, x.2.2.2.2.2.2.1, ()))))
def f161_tree (a0 : List (List UInt8)) (a1 : List (Int × List UInt8 × Unit)) (a2 : Int) (a3 : Bool) : Out (((List (List UInt8) × List (Int × List UInt8 × Unit) × Unit) × Unit) × (Unit × Unit × Unit × Unit)) :=
 .get (iter1 f161_L0 FUEL ((a2, a3, (0 : Int), ()), ((), (), a0, a1, ([] : List (List UInt8)), ([] : List ((Int × List UInt8 × Unit))), ()))) fun y1 =>
 .ret (((y1.2.2.2.1, ([] : List ((Int × List UInt8 × Unit))), ()), ()), ((), (), (), ()))
def f161_A : Nat → Option LoopAnn := fun n => annOf [(0, { head := { t := [.dead, .i .i64, .b, .vptr 64000000 0, .dead, .dead, .vptr 64000001 0, .i .i64, .dead, .dead, .dead, .dead, .dead, .dead, .dead, .dead, .dead, .dead, .dead, .dead, .dead, .dead, .dead, .dead, .dead, .dead, .dead, .dead, .dead, .dead, .dead, .dead, .dead, .dead, .dead, .dead, .dead, .dead, .dead, .dead, .dead, .dead, .dead, .dead, .dead, .dead], v := [(64000000, .var [.srf 0, .srf 1]), (64000001, .var [.srf 64000002, .srf 64000003]), (0, .arr .str), (1, .arr (.st (.cons (.int .i64) (.cons .str .nil)))), (64000002, .arr .str), (64000003, .arr (.st (.cons (.int .i64) (.cons .str .nil))))] }, out := { t := [.dead, .dead, .dead, .vptr 64000256 0, .dead, .dead, .vptr 64000257 0, .dead, .dead, .dead, .dead, .dead, .dead, .dead, .dead, .dead, .dead, .dead, .dead, .dead, .dead, .dead, .dead, .dead, .dead, .dead, .dead, .dead, .dead, .dead, .dead, .dead, .dead, .dead, .dead, .dead, .dead, .dead, .dead, .dead, .dead, .dead, .dead, .dead, .dead, .dead], v := [(64000256, .var [.srf 0, .srf 1]), (64000257, .var [.srf 64000258, .srf 64000259]), (0, .arr .str), (1, .arr (.st (.cons (.int .i64) (.cons .str .nil)))), (64000258, .arr .str), (64000259, .arr (.st (.cons (.int .i64) (.cons .str .nil))))] }, ret := none })] n
def k161 : Con := { f := 161, lend := true, its := [⟨false, true, [.own .str, .own (.st (.cons (.int .i64) (.cons .str .nil)))]⟩, ⟨false, false, [.i .i64]⟩, ⟨false, false, [.b]⟩], lay := [none, none, none], rs := [⟨false, true, [.own .str, .own (.st (.cons (.int .i64) (.cons .str .nil)))]⟩], F := fun x => .get (doneV x.1.1 x.1.2.1 x.2.1.1 x.2.2.1.1) fun y => .ret (((y.1, y.2, ()), ()), ((), (), (), ())) }
theorem f161_eq (x : itemsD k161.its) : bodyOut (cxOf []) (f161_A) (codeOf Try.f161) k161.its k161.lay Try.f161.ntmps k161.rs [.cell 6 25] x = f161_tree x.1.1 x.1.2.1 x.2.1.1 x.2.2.1.1 := by kernel_rfl
theorem f161_okp (hr : ∀ x : (List (List UInt8) × List (Int × List UInt8 × Unit) × Unit) × (Int × Unit) × (Bool × Unit) × Unit, itemsWF k161.its x → ∀ y, (k161.F x).eval = some y → (f161_tree x.1.1 x.1.2.1 x.2.1.1 x.2.2.1.1).eval = some y) : k161.Ok Try.prog :=
  con_fn [] trivial (by kernel_rfl) (codeOf_eq (by kernel_rfl)) (by kernel_rfl) (by kernel_rfl) (by kernel_rfl) f161_eq hr
theorem k161_ok : k161.Ok Try.prog := by
  refine f161_okp fun x hw y hy => ?_
  obtain ⟨⟨a, b, _⟩, ⟨m, _⟩, ⟨al, _⟩, _⟩ := x
  have hb : b.length ≤ BIG := hw.1.2.1.1
  change (Out.get (doneV a b m al) fun y => Out.ret (((y.1, (y.2, ())), ()), ((), ((), ((), ()))))).eval = some y at hy
  show (f161_tree a b m al).eval = some y
  unfold doneV at hy
  split at hy
  case isFalse => exact nomatch hy
  rename_i hf
  refine Eq.trans ?_ hy
  unfold f161_tree
  have := foldl_loop (f := f161_L0) (fun (s : List Str × Nat) i => s.2 = i ∧ s.1.length = a.length) (stepD fun i => al || bitE i m) b
    (fun s i => ((m, (al, (((i : Nat) : Int), ()))), ((), ((), (s.1, (b, (([] : List Str), (([] : List WriteD), ())))))))) (fun s => ((), ((), ((), (s.1, (b, (([] : List Str), (([] : List WriteD), ()))))))))
    (fun i hi s hs => by
      have g1 := wrap_succ (i := i) (by omega)
      have g2 := fitV_get hf hi
      have g3 : decide (0 ≤ b[i].1 ∧ b[i].1 < ((s.1.length : Nat) : Int)) = true := decide_eq_true (by rw [hs.2]; exact g2)
      have g4 : nth s.1 (Int.toNat b[i].1) = some (s.1[Int.toNat b[i].1]'(by rw [hs.2]; omega)) := List.getElem?_eq_getElem _
      have g5 := u64_n (i := i) (by omega)
      have g6 : decide (((i : Nat) : Int) < 0) = false := decide_eq_false (by omega)
      have g7 : stepD (fun i => al || bitE i m) s b[i] = (if (al || bitE i m) = true then s.1.set b[i].1.toNat b[i].2.1 else s.1, i + 1) := by simp only [stepD, hs.1]
      rw [g7]
      cases al with
      | true =>
        simp only [f161_L0, Out.eval, lt_t hi, inr_t hi, nth_get hi, Option.bind_some, cond_true, g1, g3, g4]
        rfl
      | false =>
        by_cases hm : 0 ≤ m
        · have g8 : decide (m ≥ 0) = true := decide_eq_true hm
          have g9 : nth b i = some b[i] := nth_get hi
          simp only [f161_L0, Out.eval, lt_t hi, inr_t hi, g9, Option.bind_some, cond_true, g1, g3, g4, g5, g6, g8, bitE, Int.toNat_natCast, Bool.true_and, Bool.false_or]
          cases hb : (IntKind.i64.wrap (((BitVec.ofInt (IntKind.bits IntKind.i64) (Int.fdiv m (2 ^ (min i (IntKind.bits IntKind.i64)))) &&& BitVec.ofInt (IntKind.bits IntKind.i64) (1 : Int)).toNat : Nat) : Int) == (1 : Int)) <;> rfl
        · have g8 : decide (m ≥ 0) = false := decide_eq_false hm
          simp only [f161_L0, Out.eval, lt_t hi, cond_true, g1, g8, bitE_not hm]
          rfl)
    (fun s hs => by simp [f161_L0, Out.eval])
    (fun i hi s hs => ⟨by simp [stepD, hs.1], by unfold stepD; split <;> simp [hs.2]⟩) hb (a, 0) ⟨rfl, rfl⟩
  exact (eval_get_some this).trans rfl
theorem diskOkV_fit {a : List Str} {b : List WriteD} (h : diskOkV a b = true) : fitV a b = true := by
  obtain ⟨h1, _, _, h4⟩ := diskOkV_parts h
  refine List.all_eq_true.2 fun x hx => ?_
  have := (h4 x hx).1
  rw [decide_eq_true this.1, decide_eq_true (by omega)]; rfl
def flushV (a : List Str) (b : List WriteD) : Option (List Str × List WriteD) := some (if diskOkV a b = true then applyV (fun _ => true) a b else [], [])
def fallV (a : List Str) (b : List WriteD) (m : Int) : Option (List Str × List WriteD) := some (if diskOkV a b = true then applyV (fun i => bitE i m) a b else [], [])
def fallPV (a : List Str) (b : List WriteD) (m : Int) : Option (List Str × List WriteD × Int) := some (if diskOkV a b = true then applyV (fun i => bitE i m) a b else [], [], m)
theorem doneV_ok {a : List Str} {b : List WriteD} (h : diskOkV a b = true) (m : Int) (al : Bool) : doneV a b m al = some (applyV (fun i => al || bitE i m) a b, []) := if_pos (diskOkV_fit h)
def f70_tree (a0 : List (List UInt8)) (a1 : List (Int × List UInt8 × Unit)) : Out (((List (List UInt8) × List (Int × List UInt8 × Unit) × Unit) × Unit) × (Unit × Unit)) :=
 .ite (!(diskOkV a0 a1))
 (.ret (((([] : List (List UInt8)), ([] : List ((Int × List UInt8 × Unit))), ()), ()), ((), ())))
 (.get (toDiskV a0 a1) fun y1 =>
 .get (doneV y1.1 y1.2 (0 : Int) true) fun y2 =>
 .ret (((y2.1, y2.2, ()), ()), ((), ())))
def k70 : Con := { f := 70, lend := true, its := [⟨false, true, [.ro .str, .ro (.st (.cons (.int .i64) (.cons .str .nil)))]⟩], lay := [none], rs := [⟨false, true, [.own .str, .own (.st (.cons (.int .i64) (.cons .str .nil)))]⟩], F := fun x => .get (flushV x.1.1 x.1.2.1) fun y => .ret (((y.1, y.2, ()), ()), ((), ())) }
theorem f70_eq (x : itemsD k70.its) : bodyOut (cxOf [k37, k156, k161]) (fun _ => none) (codeOf Try.f70) k70.its k70.lay Try.f70.ntmps k70.rs [.cell 2 25] x = f70_tree x.1.1 x.1.2.1 := by kernel_rfl
theorem f70_ok (hr : ∀ x : (List (List UInt8) × List (Int × List UInt8 × Unit) × Unit) × Unit, itemsWF k70.its x → (f70_tree x.1.1 x.1.2.1).eval = (k70.F x).eval) : k70.Ok Try.prog :=
  con_fn [k37, k156, k161] ⟨k37_ok, k156_ok, k161_ok, trivial⟩ (by kernel_rfl) (codeOf_eq (by kernel_rfl)) (by kernel_rfl) (by kernel_rfl) (by kernel_rfl) f70_eq fun x hw _ hy => (hr x hw).trans hy
theorem k70_ok : k70.Ok Try.prog := by
  refine f70_ok fun x _ => ?_
  obtain ⟨⟨a, b, _⟩, _⟩ := x
  show (f70_tree a b).eval = (Out.get (flushV a b) fun y => Out.ret (((y.1, (y.2, ())), ()), ((), ()))).eval
  unfold f70_tree flushV
  by_cases h : diskOkV a b = true
  · rw [eval_ite_f (by simp [h]), if_pos h, diskOkV_to h]
    refine (eval_get_some rfl).trans ?_
    rw [doneV_ok h]
    rfl
  · rw [eval_ite_t (by simp [h]), if_neg h]; rfl
def f71_tree (a0 : List (List UInt8)) (a1 : List (Int × List UInt8 × Unit)) (a2 : Int) : Out (((List (List UInt8) × List (Int × List UInt8 × Unit) × Unit) × Unit) × (Unit × Unit × Unit)) :=
 .ite (!(diskOkV a0 a1))
 (.ret (((([] : List (List UInt8)), ([] : List ((Int × List UInt8 × Unit))), ()), ()), ((), (), ())))
 (.get (toDiskV a0 a1) fun y1 =>
 .get (doneV y1.1 y1.2 a2 false) fun y2 =>
 .ret (((y2.1, y2.2, ()), ()), ((), (), ())))
def k71 : Con := { f := 71, lend := true, its := [⟨false, true, [.ro .str, .ro (.st (.cons (.int .i64) (.cons .str .nil)))]⟩, ⟨false, false, [.i .i64]⟩], lay := [none, none], rs := [⟨false, true, [.own .str, .own (.st (.cons (.int .i64) (.cons .str .nil)))]⟩], F := fun x => .get (fallV x.1.1 x.1.2.1 x.2.1.1) fun y => .ret (((y.1, y.2, ()), ()), ((), (), ())) }
theorem f71_eq (x : itemsD k71.its) : bodyOut (cxOf [k37, k156, k161]) (fun _ => none) (codeOf Try.f71) k71.its k71.lay Try.f71.ntmps k71.rs [.cell 4 25] x = f71_tree x.1.1 x.1.2.1 x.2.1.1 := by kernel_rfl
theorem f71_ok (hr : ∀ x : (List (List UInt8) × List (Int × List UInt8 × Unit) × Unit) × (Int × Unit) × Unit, itemsWF k71.its x → (f71_tree x.1.1 x.1.2.1 x.2.1.1).eval = (k71.F x).eval) : k71.Ok Try.prog :=
  con_fn [k37, k156, k161] ⟨k37_ok, k156_ok, k161_ok, trivial⟩ (by kernel_rfl) (codeOf_eq (by kernel_rfl)) (by kernel_rfl) (by kernel_rfl) (by kernel_rfl) f71_eq fun x hw _ hy => (hr x hw).trans hy
theorem k71_ok : k71.Ok Try.prog := by
  refine f71_ok fun x _ => ?_
  obtain ⟨⟨a, b, _⟩, ⟨m, _⟩, _⟩ := x
  show (f71_tree a b m).eval = (Out.get (fallV a b m) fun y => Out.ret (((y.1, (y.2, ())), ()), ((), ((), ())))).eval
  unfold f71_tree fallV
  by_cases h : diskOkV a b = true
  · rw [eval_ite_f (by simp [h]), if_pos h, diskOkV_to h]
    refine (eval_get_some rfl).trans ?_
    rw [doneV_ok h]
    rfl
  · rw [eval_ite_t (by simp [h]), if_neg h]; rfl
def f146_tree (a0 : Int) : Out (((Bool × Unit) × Unit) × (Unit × Unit)) :=
 .ret (((true, ()), ()), ((), ()))
def true1 (_ : Int) : Bool := true
def k146 : Con := { f := 146, lend := true, its := [⟨false, false, [.i .i64]⟩], lay := [none], rs := [⟨false, false, [.b]⟩], F := fun x => .ret ((((true1 x.1.1), ()), ()), ((), ())) }
theorem f146_eq (x : itemsD k146.its) : bodyOut (cxOf []) (fun _ => none) (codeOf Try.f146) k146.its k146.lay Try.f146.ntmps k146.rs [.tmp 2] x = f146_tree x.1.1 := by kernel_rfl
theorem f146_ok (hr : ∀ x : (Int × Unit) × Unit, itemsWF k146.its x → (f146_tree x.1.1).eval = (k146.F x).eval) : k146.Ok Try.prog :=
  con_fn [] trivial (by kernel_rfl) (codeOf_eq (by kernel_rfl)) (by kernel_rfl) (by kernel_rfl) (by kernel_rfl) f146_eq fun x hw _ hy => (hr x hw).trans hy
theorem k146_ok : k146.Ok Try.prog := f146_ok fun _ _ => rfl
abbrev f144a_S0 := (List ((Int × List UInt8 × Unit)) × Int × Int × Unit) × (Unit × Unit × List (List UInt8) × List ((Int × List UInt8 × Unit)) × List (List UInt8) × List ((Int × List UInt8 × Unit)) × Unit)
def f144a_L0 (x : f144a_S0) : Out (Round f144a_S0 ((Unit) × (Unit × Unit × List (List UInt8) × List ((Int × List UInt8 × Unit)) × List (List UInt8) × List ((Int × List UInt8 × Unit)) × Unit)) Empty) :=
 .ite (decide (x.1.2.2.1 < x.1.2.1))
 (.ite (decide (0 ≤ x.1.2.2.1))
 (.get (nth x.1.1 (Int.toNat x.1.2.2.1)) fun y1 =>
 .ite (true1 x.1.2.2.1)
 (.ite (decide (0 ≤ y1.1 ∧ y1.1 < ((List.length x.2.2.2.2.2.1 : Nat) : Int)))
 (.get (nth x.2.2.2.2.2.1 (Int.toNat y1.1)) fun y2 =>
 .ret (.again ((x.1.1, x.1.2.1, (IntKind.i64.wrap (x.1.2.2.1 + (1 : Int))), ()), ((), (), x.2.2.2.1, x.2.2.2.2.1, (List.set x.2.2.2.2.2.1 (Int.toNat y1.1) y1.2.1), x.2.2.2.2.2.2.1, ()))))
 .fail)
 (.ret (.again ((x.1.1, x.1.2.1, (IntKind.i64.wrap (x.1.2.2.1 + (1 : Int))), ()), ((), (), x.2.2.2.1, x.2.2.2.2.1, x.2.2.2.2.2.1, x.2.2.2.2.2.2.1, ())))))
 .fail)
 (.ret (.out ((), ((), (), x.2.2.2.1, x.2.2.2.2.1, x.2.2.2.2.2.1, x.2.2.2.2.2.2.1, ()))))
def f144a_tree (a0 : List (List UInt8)) (a1 : List (Int × List UInt8 × Unit)) : Out (((List (List UInt8) × List (Int × List UInt8 × Unit) × Unit) × Unit) × (Unit × Unit)) :=
 .ite (!(diskOkV a0 a1))
 (.ret (((([] : List (List UInt8)), ([] : List ((Int × List UInt8 × Unit))), ()), ()), ((), ())))
 (.get (cloneV a0) fun y1 =>
 .get (iter1 f144a_L0 FUEL ((a1, ((List.length a1 : Nat) : Int), (0 : Int), ()), ((), (), ([] : List (List UInt8)), ([] : List ((Int × List UInt8 × Unit))), y1, ([] : List ((Int × List UInt8 × Unit))), ()))) fun y2 =>
 .ret (((y2.2.2.2.2.2.1, y2.2.2.2.2.2.2.1, ()), ()), ((), ())))
def f144a_A : Nat → Option LoopAnn := fun n => annOf [(0, { head := { t := [.dead, .fn 146 [], .dead, .dead, .vptr 64000000 0, .vptr 64000001 0, .dead, .dead, .dead, .dead, .dead, .dead, .dead, .dead, .dead, .dead, .dead, .ro (.st (.cons (.int .i64) (.cons .str .nil))) (some 1), .i .i64, .i .i64, .dead, .dead, .dead, .dead, .dead, .dead, .dead, .dead, .dead, .dead, .dead, .dead, .dead, .dead, .dead, .dead], v := [(64000000, .var [.srf 64000002, .srf 64000003]), (64000001, .var [.srf 64000004, .srf 64000005]), (64000002, .arr .str), (64000003, .arr (.st (.cons (.int .i64) (.cons .str .nil)))), (64000004, .arr .str), (64000005, .arr (.st (.cons (.int .i64) (.cons .str .nil))))] }, out := { t := [.dead, .dead, .dead, .dead, .vptr 64000256 0, .vptr 64000257 0, .dead, .dead, .dead, .dead, .dead, .dead, .dead, .dead, .dead, .dead, .dead, .dead, .dead, .dead, .dead, .dead, .dead, .dead, .dead, .dead, .dead, .dead, .dead, .dead, .dead, .dead, .dead, .dead, .dead, .dead], v := [(64000256, .var [.srf 64000258, .srf 64000259]), (64000257, .var [.srf 64000260, .srf 64000261]), (64000258, .arr .str), (64000259, .arr (.st (.cons (.int .i64) (.cons .str .nil)))), (64000260, .arr .str), (64000261, .arr (.st (.cons (.int .i64) (.cons .str .nil))))] }, ret := none })] n
def k144a : Con := { f := 144, lend := true, its := [⟨false, true, [.ro .str, .ro (.st (.cons (.int .i64) (.cons .str .nil)))]⟩], lay := [none, some (146, 0)], rs := [⟨false, true, [.own .str, .own (.st (.cons (.int .i64) (.cons .str .nil)))]⟩], F := fun x => .get (flushV x.1.1 x.1.2.1) fun y => .ret (((y.1, y.2, ()), ()), ((), ())) }
theorem f144a_eq (x : itemsD k144a.its) : bodyOut (cxOf [k39, k196, k146]) (f144a_A) (codeOf Try.f144) k144a.its k144a.lay Try.f144.ntmps k144a.rs [.cell 4 25] x = f144a_tree x.1.1 x.1.2.1 := by kernel_rfl
theorem f144a_ok (hr : ∀ x : (List (List UInt8) × List (Int × List UInt8 × Unit) × Unit) × Unit, itemsWF k144a.its x → (f144a_tree x.1.1 x.1.2.1).eval = (k144a.F x).eval) : k144a.Ok Try.prog :=
  con_fn [k39, k196, k146] ⟨k39_ok, k196_ok, k146_ok, trivial⟩ (by kernel_rfl) (codeOf_eq (by kernel_rfl)) (by kernel_rfl) (by kernel_rfl) (by kernel_rfl) f144a_eq fun x hw _ hy => (hr x hw).trans hy
theorem k144a_ok : k144a.Ok Try.prog := by
  refine f144a_ok fun x _ => ?_
  obtain ⟨⟨a, b, _⟩, _⟩ := x
  show (f144a_tree a b).eval = (Out.get (flushV a b) fun y => Out.ret (((y.1, (y.2, ())), ()), ((), ()))).eval
  unfold f144a_tree flushV
  by_cases h : diskOkV a b = true
  · have hp := diskOkV_parts h
    have hf := diskOkV_fit h
    rw [eval_ite_f (by simp [h]), if_pos h]
    have hc : cloneV a = some a := lim_some (by rw [LIM_eq]; omega)
    rw [hc]
    refine (eval_get_some rfl).trans ?_
    have := foldl_loop (f := f144a_L0) (fun (s : List Str × Nat) i => s.2 = i ∧ s.1.length = a.length) (stepD fun _ => true) b
      (fun s i => ((b, (((b.length : Nat) : Int), (((i : Nat) : Int), ()))), ((), ((), (([] : List Str), (([] : List WriteD), (s.1, (([] : List WriteD), ())))))))) (fun s => ((), ((), ((), (([] : List Str), (([] : List WriteD), (s.1, (([] : List WriteD), ()))))))))
      (fun i hi s hs => by
        have g1 := wrap_succ (i := i) (by unfold BIG; omega)
        have g2 := fitV_get hf hi
        have g3 : decide (0 ≤ b[i].1 ∧ b[i].1 < ((s.1.length : Nat) : Int)) = true := decide_eq_true (by rw [hs.2]; exact g2)
        have g4 : nth s.1 (Int.toNat b[i].1) = some (s.1[Int.toNat b[i].1]'(by rw [hs.2]; omega)) := List.getElem?_eq_getElem _
        have g7 : stepD (fun _ => true) s b[i] = (s.1.set b[i].1.toNat b[i].2.1, i + 1) := by simp only [stepD, hs.1, if_true]
        rw [g7]
        simp only [f144a_L0, Out.eval, lt_t hi, ge0, true1, nth_get hi, Option.bind_some, cond_true, g1, g3, g4])
      (fun s hs => by simp [f144a_L0, Out.eval])
      (fun i hi s hs => ⟨by simp [stepD, hs.1], by simp [stepD, hs.2]⟩) (by unfold BIG; omega) (a, 0) ⟨rfl, rfl⟩
    exact (eval_get_some this).trans rfl
  · rw [eval_ite_t (by simp [h]), if_neg h]; rfl
def f48_tree (a0 : List (List UInt8)) (a1 : List (Int × List UInt8 × Unit)) : Out (((List (List UInt8) × List (Int × List UInt8 × Unit) × Unit) × Unit) × (Unit × Unit)) :=
 .get (flushV a0 a1) fun y1 =>
 .ret (((y1.1, y1.2, ()), ()), ((), ()))
def k48 : Con := { f := 48, lend := true, its := [⟨false, true, [.ro .str, .ro (.st (.cons (.int .i64) (.cons .str .nil)))]⟩], lay := [none], rs := [⟨false, true, [.own .str, .own (.st (.cons (.int .i64) (.cons .str .nil)))]⟩], F := fun x => .get (flushV x.1.1 x.1.2.1) fun y => .ret (((y.1, y.2, ()), ()), ((), ())) }
theorem f48_eq (x : itemsD k48.its) : bodyOut (cxOf [k144a]) (fun _ => none) (codeOf Try.f48) k48.its k48.lay Try.f48.ntmps k48.rs [.cell 2 25] x = f48_tree x.1.1 x.1.2.1 := by kernel_rfl
theorem f48_ok (hr : ∀ x : (List (List UInt8) × List (Int × List UInt8 × Unit) × Unit) × Unit, itemsWF k48.its x → (f48_tree x.1.1 x.1.2.1).eval = (k48.F x).eval) : k48.Ok Try.prog :=
  con_fn [k144a] ⟨k144a_ok, trivial⟩ (by kernel_rfl) (codeOf_eq (by kernel_rfl)) (by kernel_rfl) (by kernel_rfl) (by kernel_rfl) f48_eq fun x hw _ hy => (hr x hw).trans hy
theorem k48_ok : k48.Ok Try.prog := f48_ok fun _ _ => rfl
abbrev f144b_S0 := (List ((Int × List UInt8 × Unit)) × Int × Int × Unit) × ((Int × Unit) × Unit × Unit × List (List UInt8) × List ((Int × List UInt8 × Unit)) × List (List UInt8) × List ((Int × List UInt8 × Unit)) × Unit)
def f144b_L0 (x : f144b_S0) : Out (Round f144b_S0 ((Unit) × (Unit × Unit × List (List UInt8) × List ((Int × List UInt8 × Unit)) × List (List UInt8) × List ((Int × List UInt8 × Unit)) × (Int × Unit) × Unit)) Empty) :=
 .ite (decide (x.1.2.2.1 < x.1.2.1))
 (.ite (decide (0 ≤ x.1.2.2.1))
 (.get (nth x.1.1 (Int.toNat x.1.2.2.1)) fun y1 =>
 .get (bitV x.1.2.2.1 x.2.1.1) fun y2 =>
 .ite y2.1
 (.ite (decide (0 ≤ y1.1 ∧ y1.1 < ((List.length x.2.2.2.2.2.2.1 : Nat) : Int)))
 (.get (nth x.2.2.2.2.2.2.1 (Int.toNat y1.1)) fun y3 =>
 .ret (.again ((x.1.1, x.1.2.1, (IntKind.i64.wrap (x.1.2.2.1 + (1 : Int))), ()), ((y2.2, ()), (), (), x.2.2.2.2.1, x.2.2.2.2.2.1, (List.set x.2.2.2.2.2.2.1 (Int.toNat y1.1) y1.2.1), x.2.2.2.2.2.2.2.1, ()))))
 .fail)
 (.ret (.again ((x.1.1, x.1.2.1, (IntKind.i64.wrap (x.1.2.2.1 + (1 : Int))), ()), ((y2.2, ()), (), (), x.2.2.2.2.1, x.2.2.2.2.2.1, x.2.2.2.2.2.2.1, x.2.2.2.2.2.2.2.1, ())))))
 .fail)
 (.ret (.out ((), ((), (), x.2.2.2.2.1, x.2.2.2.2.2.1, x.2.2.2.2.2.2.1, x.2.2.2.2.2.2.2.1, (x.2.1.1, ()), ()))))
def f144b_tree (a0 : List (List UInt8)) (a1 : List (Int × List UInt8 × Unit)) (a2 : Int) : Out (((List (List UInt8) × List (Int × List UInt8 × Unit) × Unit) × Unit) × (Unit × (Int × Unit) × Unit)) :=
 .ite (!(diskOkV a0 a1))
 (.ret (((([] : List (List UInt8)), ([] : List ((Int × List UInt8 × Unit))), ()), ()), ((), (a2, ()), ())))
 (.get (cloneV a0) fun y1 =>
 .get (iter1 f144b_L0 FUEL ((a1, ((List.length a1 : Nat) : Int), (0 : Int), ()), ((a2, ()), (), (), ([] : List (List UInt8)), ([] : List ((Int × List UInt8 × Unit))), y1, ([] : List ((Int × List UInt8 × Unit))), ()))) fun y2 =>
 .ret (((y2.2.2.2.2.2.1, y2.2.2.2.2.2.2.1, ()), ()), ((), (y2.2.2.2.2.2.2.2.1.1, ()), ())))
def f144b_A : Nat → Option LoopAnn := fun n => annOf [(0, { head := { t := [.dead, .fn 145 [2], .dead, .dead, .vptr 64000000 0, .vptr 64000001 0, .dead, .dead, .dead, .dead, .dead, .dead, .dead, .dead, .dead, .dead, .dead, .ro (.st (.cons (.int .i64) (.cons .str .nil))) (some 1), .i .i64, .i .i64, .dead, .dead, .dead, .dead, .dead, .dead, .dead, .dead, .dead, .dead, .dead, .dead, .dead, .dead, .dead, .dead], v := [(2, .var [.i .i64]), (64000000, .var [.srf 64000002, .srf 64000003]), (64000001, .var [.srf 64000004, .srf 64000005]), (64000002, .arr .str), (64000003, .arr (.st (.cons (.int .i64) (.cons .str .nil)))), (64000004, .arr .str), (64000005, .arr (.st (.cons (.int .i64) (.cons .str .nil))))] }, out := { t := [.dead, .fn 145 [2], .dead, .dead, .vptr 64000256 0, .vptr 64000257 0, .dead, .dead, .dead, .dead, .dead, .dead, .dead, .dead, .dead, .dead, .dead, .dead, .dead, .dead, .dead, .dead, .dead, .dead, .dead, .dead, .dead, .dead, .dead, .dead, .dead, .dead, .dead, .dead, .dead, .dead], v := [(64000256, .var [.srf 64000258, .srf 64000259]), (64000257, .var [.srf 64000260, .srf 64000261]), (64000258, .arr .str), (64000259, .arr (.st (.cons (.int .i64) (.cons .str .nil)))), (64000260, .arr .str), (64000261, .arr (.st (.cons (.int .i64) (.cons .str .nil)))), (2, .var [.i .i64])] }, ret := none })] n
def k144b : Con := { f := 144, lend := true, its := [⟨false, true, [.ro .str, .ro (.st (.cons (.int .i64) (.cons .str .nil)))]⟩, ⟨true, false, [.i .i64]⟩], lay := [none, some (145, 1)], rs := [⟨false, true, [.own .str, .own (.st (.cons (.int .i64) (.cons .str .nil)))]⟩], F := fun x => .get (fallPV x.1.1 x.1.2.1 x.2.1.1) fun y => .ret (((y.1, y.2.1, ()), ()), ((), (y.2.2, ()), ())) }
theorem f144b_eq (x : itemsD k144b.its) : bodyOut (cxOf [k39, k196, k145]) (f144b_A) (codeOf Try.f144) k144b.its k144b.lay Try.f144.ntmps k144b.rs [.cell 4 25] x = f144b_tree x.1.1 x.1.2.1 x.2.1.1 := by kernel_rfl
theorem f144b_ok (hr : ∀ x : (List (List UInt8) × List (Int × List UInt8 × Unit) × Unit) × (Int × Unit) × Unit, itemsWF k144b.its x → (f144b_tree x.1.1 x.1.2.1 x.2.1.1).eval = (k144b.F x).eval) : k144b.Ok Try.prog :=
  con_fn [k39, k196, k145] ⟨k39_ok, k196_ok, k145_ok, trivial⟩ (by kernel_rfl) (codeOf_eq (by kernel_rfl)) (by kernel_rfl) (by kernel_rfl) (by kernel_rfl) f144b_eq fun x hw _ hy => (hr x hw).trans hy
theorem k144b_ok : k144b.Ok Try.prog := by
  refine f144b_ok fun x _ => ?_
  obtain ⟨⟨a, b, _⟩, ⟨m, _⟩, _⟩ := x
  show (f144b_tree a b m).eval = (Out.get (fallPV a b m) fun y => Out.ret (((y.1, (y.2.1, ())), ()), ((), ((y.2.2, ()), ())))).eval
  unfold f144b_tree fallPV
  by_cases h : diskOkV a b = true
  · have hp := diskOkV_parts h
    have hf := diskOkV_fit h
    rw [eval_ite_f (by simp [h]), if_pos h]
    have hc : cloneV a = some a := lim_some (by rw [LIM_eq]; omega)
    rw [hc]
    refine (eval_get_some rfl).trans ?_
    have := foldl_loop (f := f144b_L0) (fun (s : List Str × Nat) i => s.2 = i ∧ s.1.length = a.length) (stepD fun i => bitE i m) b
      (fun s i => ((b, (((b.length : Nat) : Int), (((i : Nat) : Int), ()))), ((m, ()), ((), ((), (([] : List Str), (([] : List WriteD), (s.1, (([] : List WriteD), ()))))))))) (fun s => ((), ((), ((), (([] : List Str), (([] : List WriteD), (s.1, (([] : List WriteD), ((m, ()), ())))))))))
      (fun i hi s hs => by
        have g1 := wrap_succ (i := i) (by unfold BIG; omega)
        have g2 := fitV_get hf hi
        have g3 : decide (0 ≤ b[i].1 ∧ b[i].1 < ((s.1.length : Nat) : Int)) = true := decide_eq_true (by rw [hs.2]; exact g2)
        have g4 : nth s.1 (Int.toNat b[i].1) = some (s.1[Int.toNat b[i].1]'(by rw [hs.2]; omega)) := List.getElem?_eq_getElem _
        have g5 : bitV ((i : Nat) : Int) m = some (bitE i m, m) := if_neg (by omega)
        have g7 : stepD (fun i => bitE i m) s b[i] = (if bitE i m = true then s.1.set b[i].1.toNat b[i].2.1 else s.1, i + 1) := by simp only [stepD, hs.1]
        rw [g7]
        simp only [f144b_L0, Out.eval, lt_t hi, ge0, nth_get hi, Option.bind_some, cond_true, g1, g3, g4, g5]
        cases bitE i m <;> rfl)
      (fun s hs => by simp [f144b_L0, Out.eval])
      (fun i hi s hs => ⟨by simp [stepD, hs.1], by unfold stepD; split <;> simp [hs.2]⟩) (by unfold BIG; omega) (a, 0) ⟨rfl, rfl⟩
    exact (eval_get_some this).trans rfl
  · rw [eval_ite_t (by simp [h]), if_neg h]; rfl
def f47_tree (a0 : List (List UInt8)) (a1 : List (Int × List UInt8 × Unit)) (a2 : Int) : Out (((List (List UInt8) × List (Int × List UInt8 × Unit) × Unit) × Unit) × (Unit × Unit × Unit)) :=
 .get (fallPV a0 a1 a2) fun y1 =>
 .ret (((y1.1, y1.2.1, ()), ()), ((), (), ()))
def k47 : Con := { f := 47, lend := true, its := [⟨false, true, [.ro .str, .ro (.st (.cons (.int .i64) (.cons .str .nil)))]⟩, ⟨false, false, [.i .i64]⟩], lay := [none, none], rs := [⟨false, true, [.own .str, .own (.st (.cons (.int .i64) (.cons .str .nil)))]⟩], F := fun x => .get (fallV x.1.1 x.1.2.1 x.2.1.1) fun y => .ret (((y.1, y.2, ()), ()), ((), (), ())) }
theorem f47_eq (x : itemsD k47.its) : bodyOut (cxOf [k144b]) (fun _ => none) (codeOf Try.f47) k47.its k47.lay Try.f47.ntmps k47.rs [.cell 4 25] x = f47_tree x.1.1 x.1.2.1 x.2.1.1 := by kernel_rfl
theorem f47_ok (hr : ∀ x : (List (List UInt8) × List (Int × List UInt8 × Unit) × Unit) × (Int × Unit) × Unit, itemsWF k47.its x → (f47_tree x.1.1 x.1.2.1 x.2.1.1).eval = (k47.F x).eval) : k47.Ok Try.prog :=
  con_fn [k144b] ⟨k144b_ok, trivial⟩ (by kernel_rfl) (codeOf_eq (by kernel_rfl)) (by kernel_rfl) (by kernel_rfl) (by kernel_rfl) f47_eq fun x hw _ hy => (hr x hw).trans hy
theorem k47_ok : k47.Ok Try.prog := by
  refine f47_ok fun x _ => ?_
  obtain ⟨⟨a, b, _⟩, ⟨m, _⟩, _⟩ := x
  rfl

/-! ## What all laws on disks ask -/
theorem eqDiskV_self (a : List Str) (b : List WriteD) : eqDiskV a b a b = true := by simp [eqDiskV]
theorem eqWritesV_self (a : List WriteD) : eqWritesV a a = true := by simp [eqWritesV]
theorem up_nonneg {n : Nat} (h : n < BIG) : ¬ up 1 n < 0 := by rw [up_one h]; omega
theorem marks_disk {a : List Str} {b : List WriteD} (h : a.length + 2 * b.length < 4611686018427387904) : ¬ (markDiskV a b 1).1 < 0 ∧ (heldDiskV (markDiskV a b 1).2.1 (markDiskV a b 1).2.2 1 != (markDiskV a b 1).1) = false ∧ ¬ heldDiskV (markDiskV a b 1).2.1 (markDiskV a b 1).2.2 1 < 0 := by
  have := held_markDisk h
  refine ⟨by omega, by rw [this.1]; simp, by rw [this.1]; omega⟩
theorem mark_disk_up {a : List Str} {b : List WriteD} : (markDiskV a b 1).1 = up 1 (a.length + 2 * b.length) := by
  show up (up 1 a.length) (2 * b.length) = _
  rw [up_add]
theorem applyV_len (p : Nat → Bool) (a : List Str) (b : List WriteD) : (applyV p a b).length = a.length := by
  unfold applyV
  have : ∀ (b : List WriteD) (s : List Str × Nat), (b.foldl (stepD p) s).1.length = s.1.length := by
    intro b
    induction b with
    | nil => exact fun _ => rfl
    | cons x r ih =>
      intro s
      rw [List.foldl_cons, ih]
      unfold stepD
      split <;> simp
  exact this b (a, 0)
theorem flushV_some (a : List Str) (b : List WriteD) : ∃ r, flushV a b = some (r, []) ∧ r.length ≤ 7 := by
  unfold flushV
  refine ⟨_, rfl, ?_⟩
  split
  · rename_i h; rw [applyV_len]; exact Nat.le_of_eq (diskOkV_parts h).1
  · simp
theorem fallV_some (a : List Str) (b : List WriteD) (m : Int) : ∃ r, fallV a b m = some (r, []) ∧ r.length ≤ 7 := by
  unfold fallV
  refine ⟨_, rfl, ?_⟩
  split
  · rename_i h; rw [applyV_len]; exact Nat.le_of_eq (diskOkV_parts h).1
  · simp
theorem putV_some {a : List Str} {b l : List WriteD} (hl : l.length ≤ LIM) : ∃ r s t, putV a b l = some (r, s, t) ∧ r.length ≤ 7 ∧ s.length ≤ 20 := by
  unfold putV
  rw [if_pos hl]
  split
  · rename_i h
    have hp := diskOkV_parts h
    split
    · rename_i q; exact ⟨_, _, _, rfl, Nat.le_of_eq hp.1, by rw [List.length_append]; exact q.1⟩
    · exact ⟨_, _, _, rfl, Nat.le_of_eq hp.1, hp.2.1⟩
  · exact ⟨_, _, _, rfl, by simp, by simp⟩

end Go.Proofs.Ytjcinikojcfebaa.Dm
