/- Functions of the program, and what they compute. -/
import Derived.Test.YtnnpnkegpkladaaGreatL1
import Derived.Test.YtnnpnkegpkladaaGreatQ6
namespace Go.Proofs.YtnnpnkegpkladaaGreat.Dm
open Go Go.ChangeShapes Go.WideShapes Go.ChangeAt Go.RowKit
def k279 : Con := { f := 279, lend := true, its := [⟨false, false, [.ro .bool]⟩], lay := [none], rs := [⟨false, false, [.own .bool]⟩], F := fun x => .get (cloneV x.1.1) fun y => .ret (((y, ()), ()), ((), ())) }
noncomputable def f279_c : Code := codeOf Tryz.f279
noncomputable def f279_B : Code := cSeqR (cSeqR f279_c)
noncomputable def f279_M : Code := cSeqL (cSeqR f279_c)
noncomputable def f279_X : Code := cThen (cSeqR f279_M)
theorem f279_code : codeOf Tryz.f279 = .seq (cSeqL f279_c) (.seq (.seq (.region 1 #[cOp (cSeqL f279_M) 0, cOp (cSeqL f279_M) 1] false) (.cond (.tmp 4) (.seq (.region 2 (cOps (cSeqL f279_X)) false) .ret) .skip)) f279_B) := by kernel_rfl
theorem f279_yes (x : (List Bool × Unit) × Unit) : askOut (cxOf []) (fun _ => none) (cSeqL f279_c) (.seq (.region 2 (cOps (cSeqL f279_X)) false) .ret) k279.its k279.lay Tryz.f279.ntmps k279.rs [.tmp 2] x = Out.ret ((((([] : List (Bool))), ()), ()), ((), ())) := by kernel_rfl
theorem f279_no (x : (List Bool × Unit) × Unit) : askOut (cxOf []) (fun _ => none) (cSeqL f279_c) f279_B k279.its k279.lay Tryz.f279.ntmps k279.rs [.tmp 2] x = Out.ite (decide (List.length ([] : List (Bool)) + List.length x.1.1 ≤ LIM)) (Out.ret (((([] : List (Bool)) ++ x.1.1, ()), ()), ((), ()))) Out.fail := by kernel_rfl
theorem k279_ok : k279.Ok Tryz.prog := by
  refine con_of_ask (cxOf'_ok tab_ok eqT_ok []) (callL_ok [] (fun K hK => by cases hK) rfl) mixed_ok (An := fun _ => none) (rtm := [.tmp 2]) (tk := some 0) (tid := 36) (te := 4) (l := fun x => x.1.1) (by kernel_rfl) (codeOf_eq (by kernel_rfl)) (by kernel_rfl) (by kernel_rfl) (by decide) (by decide) (by decide)
    f279_code (by kernel_rfl) (by kernel_rfl) (by kernel_rfl) (by kernel_rfl) (by kernel_rfl) (by kernel_rfl) (by kernel_rfl) (fun x => by kernel_rfl) (fun x => Nat.le_of_ble_eq_true (by kernel_rfl)) (fun x y _ hy => ?_) (fun x y _ hl hy => ?_)
  · obtain ⟨⟨a, _⟩, _⟩ := x
    refine (congrArg Out.eval (f279_no _)).trans ?_
    change (Out.get (cloneV a) fun y => Out.ret (((y, ()), ()), ((), ()))).eval = some y at hy
    unfold cloneV at hy
    by_cases h : a.length ≤ LIM
    · rw [lim_some h] at hy
      exact (eval_ite_t (decide_eq_true (show 0 + a.length ≤ LIM from (Nat.zero_add _).symm ▸ h))).trans hy
    · rw [lim_not h] at hy; exact nomatch hy
  · obtain ⟨⟨a, _⟩, _⟩ := x
    obtain rfl : a = [] := hl
    exact (congrArg Out.eval (f279_yes _)).trans hy
def k64 : Con := { f := 64, lend := true, its := [⟨false, false, [.ro tyN]⟩], lay := [none], rs := [⟨false, false, [.own tyN]⟩], F := fun x => .get (cloneV x.1.1) fun y => .ret (((y, ()), ()), ((), ())) }
noncomputable def f64_c : Code := codeOf Tryz.f64
noncomputable def f64_B : Code := cSeqR (cSeqR f64_c)
noncomputable def f64_M : Code := cSeqL (cSeqR f64_c)
noncomputable def f64_X : Code := cThen (cSeqR f64_M)
theorem f64_code : codeOf Tryz.f64 = .seq (cSeqL f64_c) (.seq (.seq (.region 1 #[cOp (cSeqL f64_M) 0, cOp (cSeqL f64_M) 1] false) (.cond (.tmp 4) (.seq (.region 2 (cOps (cSeqL f64_X)) false) .ret) .skip)) f64_B) := by kernel_rfl
theorem f64_yes (x : (List InsD × Unit) × Unit) : askOut (cxOf []) (fun _ => none) (cSeqL f64_c) (.seq (.region 2 (cOps (cSeqL f64_X)) false) .ret) k64.its k64.lay Tryz.f64.ntmps k64.rs [.tmp 2] x = Out.ret ((((([] : List InsD)), ()), ()), ((), ())) := by kernel_rfl
theorem f64_no (x : (List InsD × Unit) × Unit) : askOut (cxOf []) (fun _ => none) (cSeqL f64_c) f64_B k64.its k64.lay Tryz.f64.ntmps k64.rs [.tmp 2] x = Out.ite (decide (List.length ([] : List InsD) + List.length x.1.1 ≤ LIM)) (Out.ret (((([] : List InsD) ++ x.1.1, ()), ()), ((), ()))) Out.fail := by kernel_rfl
theorem k64_ok : k64.Ok Tryz.prog := by
  refine con_of_ask (cxOf'_ok tab_ok eqT_ok []) (callL_ok [] (fun K hK => by cases hK) rfl) mixed_ok (An := fun _ => none) (rtm := [.tmp 2]) (tk := some 0) (tid := 73) (te := 71) (l := fun x => x.1.1) (by kernel_rfl) (codeOf_eq (by kernel_rfl)) (by kernel_rfl) (by kernel_rfl) (by decide) (by decide) (by decide)
    f64_code (by kernel_rfl) (by kernel_rfl) (by kernel_rfl) (by kernel_rfl) (by kernel_rfl) (by kernel_rfl) (by kernel_rfl) (fun x => by kernel_rfl) (fun x => Nat.le_of_ble_eq_true (by kernel_rfl)) (fun x y _ hy => ?_) (fun x y _ hl hy => ?_)
  · obtain ⟨⟨a, _⟩, _⟩ := x
    refine (congrArg Out.eval (f64_no _)).trans ?_
    change (Out.get (cloneV a) fun y => Out.ret (((y, ()), ()), ((), ()))).eval = some y at hy
    unfold cloneV at hy
    by_cases h : a.length ≤ LIM
    · rw [lim_some h] at hy
      exact (eval_ite_t (decide_eq_true (show 0 + a.length ≤ LIM from (Nat.zero_add _).symm ▸ h))).trans hy
    · rw [lim_not h] at hy; exact nomatch hy
  · obtain ⟨⟨a, _⟩, _⟩ := x
    obtain rfl : a = [] := hl
    exact (congrArg Out.eval (f64_yes _)).trans hy
def k90 : Con := { f := 90, lend := true, its := [⟨false, false, [.ro tyO]⟩], lay := [none], rs := [⟨false, false, [.own tyO]⟩], F := fun x => .get (cloneV x.1.1) fun y => .ret (((y, ()), ()), ((), ())) }
noncomputable def f90_c : Code := codeOf Tryz.f90
noncomputable def f90_B : Code := cSeqR (cSeqR f90_c)
noncomputable def f90_M : Code := cSeqL (cSeqR f90_c)
noncomputable def f90_X : Code := cThen (cSeqR f90_M)
theorem f90_code : codeOf Tryz.f90 = .seq (cSeqL f90_c) (.seq (.seq (.region 1 #[cOp (cSeqL f90_M) 0, cOp (cSeqL f90_M) 1] false) (.cond (.tmp 4) (.seq (.region 2 (cOps (cSeqL f90_X)) false) .ret) .skip)) f90_B) := by kernel_rfl
theorem f90_yes (x : (List OpenD × Unit) × Unit) : askOut (cxOf []) (fun _ => none) (cSeqL f90_c) (.seq (.region 2 (cOps (cSeqL f90_X)) false) .ret) k90.its k90.lay Tryz.f90.ntmps k90.rs [.tmp 2] x = Out.ret ((((([] : List OpenD)), ()), ()), ((), ())) := by kernel_rfl
theorem f90_no (x : (List OpenD × Unit) × Unit) : askOut (cxOf []) (fun _ => none) (cSeqL f90_c) f90_B k90.its k90.lay Tryz.f90.ntmps k90.rs [.tmp 2] x = Out.ite (decide (List.length ([] : List OpenD) + List.length x.1.1 ≤ LIM)) (Out.ret (((([] : List OpenD) ++ x.1.1, ()), ()), ((), ()))) Out.fail := by kernel_rfl
theorem k90_ok : k90.Ok Tryz.prog := by
  refine con_of_ask (cxOf'_ok tab_ok eqT_ok []) (callL_ok [] (fun K hK => by cases hK) rfl) mixed_ok (An := fun _ => none) (rtm := [.tmp 2]) (tk := some 0) (tid := 27) (te := 84) (l := fun x => x.1.1) (by kernel_rfl) (codeOf_eq (by kernel_rfl)) (by kernel_rfl) (by kernel_rfl) (by decide) (by decide) (by decide)
    f90_code (by kernel_rfl) (by kernel_rfl) (by kernel_rfl) (by kernel_rfl) (by kernel_rfl) (by kernel_rfl) (by kernel_rfl) (fun x => by kernel_rfl) (fun x => Nat.le_of_ble_eq_true (by kernel_rfl)) (fun x y _ hy => ?_) (fun x y _ hl hy => ?_)
  · obtain ⟨⟨a, _⟩, _⟩ := x
    refine (congrArg Out.eval (f90_no _)).trans ?_
    change (Out.get (cloneV a) fun y => Out.ret (((y, ()), ()), ((), ()))).eval = some y at hy
    unfold cloneV at hy
    by_cases h : a.length ≤ LIM
    · rw [lim_some h] at hy
      exact (eval_ite_t (decide_eq_true (show 0 + a.length ≤ LIM from (Nat.zero_add _).symm ▸ h))).trans hy
    · rw [lim_not h] at hy; exact nomatch hy
  · obtain ⟨⟨a, _⟩, _⟩ := x
    obtain rfl : a = [] := hl
    exact (congrArg Out.eval (f90_yes _)).trans hy
def f221_tree (a0 : Int) (a1 : Int) : Out (((Int × Unit) × (Int × Unit) × Unit) × XI) :=
 .ite (decide ((32 : Int) < 0))
 .fail
 (.ite (decide ((32 : Int) < 0))
 .fail
 (.ite (decide ((32 : Int) < 0))
 .fail
 (.ite (decide ((32 : Int) < 0))
 .fail
 (.ite (decide ((32 : Int) < 0))
 .fail
 (.ret ((((IntKind.u64.wrap ((IntKind.u64.wrap ((IntKind.u64.wrap ((Int.fdiv a0 (2 ^ (min (Int.toNat (32 : Int)) (IntKind.bits IntKind.u64)))) * (Int.fdiv a1 (2 ^ (min (Int.toNat (32 : Int)) (IntKind.bits IntKind.u64)))))) + (Int.fdiv (IntKind.u64.wrap ((IntKind.u64.wrap ((Int.fdiv a0 (2 ^ (min (Int.toNat (32 : Int)) (IntKind.bits IntKind.u64)))) * (IntKind.u64.wrap (((BitVec.ofInt (IntKind.bits IntKind.u64) a1 &&& BitVec.ofInt (IntKind.bits IntKind.u64) (4294967295 : Int)).toNat : Int))))) + (Int.fdiv (IntKind.u64.wrap ((IntKind.u64.wrap (((BitVec.ofInt (IntKind.bits IntKind.u64) a0 &&& BitVec.ofInt (IntKind.bits IntKind.u64) (4294967295 : Int)).toNat : Int))) * (IntKind.u64.wrap (((BitVec.ofInt (IntKind.bits IntKind.u64) a1 &&& BitVec.ofInt (IntKind.bits IntKind.u64) (4294967295 : Int)).toNat : Int))))) (2 ^ (min (Int.toNat (32 : Int)) (IntKind.bits IntKind.u64)))))) (2 ^ (min (Int.toNat (32 : Int)) (IntKind.bits IntKind.u64)))))) + (Int.fdiv (IntKind.u64.wrap ((IntKind.u64.wrap (((BitVec.ofInt (IntKind.bits IntKind.u64) (IntKind.u64.wrap ((IntKind.u64.wrap ((Int.fdiv a0 (2 ^ (min (Int.toNat (32 : Int)) (IntKind.bits IntKind.u64)))) * (IntKind.u64.wrap (((BitVec.ofInt (IntKind.bits IntKind.u64) a1 &&& BitVec.ofInt (IntKind.bits IntKind.u64) (4294967295 : Int)).toNat : Int))))) + (Int.fdiv (IntKind.u64.wrap ((IntKind.u64.wrap (((BitVec.ofInt (IntKind.bits IntKind.u64) a0 &&& BitVec.ofInt (IntKind.bits IntKind.u64) (4294967295 : Int)).toNat : Int))) * (IntKind.u64.wrap (((BitVec.ofInt (IntKind.bits IntKind.u64) a1 &&& BitVec.ofInt (IntKind.bits IntKind.u64) (4294967295 : Int)).toNat : Int))))) (2 ^ (min (Int.toNat (32 : Int)) (IntKind.bits IntKind.u64)))))) &&& BitVec.ofInt (IntKind.bits IntKind.u64) (4294967295 : Int)).toNat : Int))) + (IntKind.u64.wrap ((IntKind.u64.wrap (((BitVec.ofInt (IntKind.bits IntKind.u64) a0 &&& BitVec.ofInt (IntKind.bits IntKind.u64) (4294967295 : Int)).toNat : Int))) * (Int.fdiv a1 (2 ^ (min (Int.toNat (32 : Int)) (IntKind.bits IntKind.u64)))))))) (2 ^ (min (Int.toNat (32 : Int)) (IntKind.bits IntKind.u64)))))), ()), ((IntKind.u64.wrap (a0 * a1)), ()), ()), ((), (), ())))))))
def k221_V := fun a0 a1 => (f221_tree a0 a1).eval
def k221 : Con := { f := 221, lend := true, its := [⟨false, false, [.i .u64]⟩, ⟨false, false, [.i .u64]⟩], lay := [none, none], rs := [⟨false, false, [.i .u64]⟩, ⟨false, false, [.i .u64]⟩], F := fun x => .get (k221_V x.1.1 x.2.1.1) fun y => .ret y }
theorem f221_eq (x : itemsD k221.its) : bo [] (fun _ => none) Tryz.f221 k221 [.tmp 4, .tmp 5] x = f221_tree x.1.1 x.2.1.1 := by kernel_rfl
theorem k221_ok : k221.Ok Tryz.prog := con_fn [] trivial f221_eq fun _ _ _ hy => (eval_get_ret _).symm.trans hy
def f147_tree (a0 : Int) (a1 : Int) : Out (((Int × Unit) × (Int × Unit) × Unit) × XI) :=
 .get (k221_V a0 a1) fun y1 =>
 .ret (((y1.1.1.1, ()), (y1.1.2.1.1, ()), ()), ((), (), ()))
def k147_V := fun a0 a1 => (f147_tree a0 a1).eval
def k147 : Con := { f := 147, lend := true, its := [⟨false, false, [.i .u64]⟩, ⟨false, false, [.i .u64]⟩], lay := [none, none], rs := [⟨false, false, [.i .u64]⟩, ⟨false, false, [.i .u64]⟩], F := fun x => .get (k147_V x.1.1 x.2.1.1) fun y => .ret y }
theorem f147_eq (x : itemsD k147.its) : bo [k221] (fun _ => none) Tryz.f147 k147 [.tmp 4, .tmp 5] x = f147_tree x.1.1 x.2.1.1 := by kernel_rfl
theorem k147_ok : k147.Ok Tryz.prog := con_fn [k221] ⟨k221_ok, trivial⟩ f147_eq fun _ _ _ hy => (eval_get_ret _).symm.trans hy
abbrev f63_S0 := (Int × Unit) × (List Int × Unit)
def f63_L0 : f63_S0 → Out (Round f63_S0 ((Unit) × (List Int × Unit)) Empty)
| ((p0, _), p1, _) =>
 .ite (decide (p0 < ((List.length p1 : Nat) : Int)))
 (.ite (decide (0 ≤ p0 ∧ p0 ≤ ((List.length p1 : Nat) : Int) ∧ ((List.length p1 : Nat) : Int) ≤ ((List.length p1 : Nat) : Int)))
 (.ite (decide (0 ≤ (0 : Int) ∧ (0 : Int) ≤ p0 ∧ p0 ≤ ((List.length p1 : Nat) : Int)))
 (.ret (.again (((IntKind.i64.wrap (p0 + (((min ((Int.toNat ((List.length p1 : Nat) : Int) - Int.toNat p0)) (List.length (List.take (Int.toNat p0 - Int.toNat (0 : Int)) (List.drop (0 + Int.toNat (0 : Int)) p1)))) : Nat) : Int))), ()), ((List.take (0 + Int.toNat p0) p1 ++ List.take (min ((Int.toNat ((List.length p1 : Nat) : Int) - Int.toNat p0)) (List.length (List.take (Int.toNat p0 - Int.toNat (0 : Int)) (List.drop (0 + Int.toNat (0 : Int)) p1)))) (List.take (Int.toNat p0 - Int.toNat (0 : Int)) (List.drop (0 + Int.toNat (0 : Int)) p1)) ++ List.drop ((0 + Int.toNat p0) + (min ((Int.toNat ((List.length p1 : Nat) : Int) - Int.toNat p0)) (List.length (List.take (Int.toNat p0 - Int.toNat (0 : Int)) (List.drop (0 + Int.toNat (0 : Int)) p1))))) p1), ()))))
 .fail)
 .fail)
 (.ret (.out ((), (p1, ()))))
def f63_tree (a0 : List Int) (a1 : Int) : Out (((List Int × Unit) × Unit) × XI) :=
 .ite (decide (a1 < 0))
 .fail
 (.get (k147_V (IntKind.u64.wrap ((List.length a0 : Nat) : Int)) (IntKind.u64.wrap a1)) fun (((y1aa, _), (y1ab, _), _), _) =>
 .ite ((decide (y1aa > 0)) == false)
 (.ite (decide (y1ab > 9223372036854775807))
 .fail
 (.ite (decide (0 ≤ (IntKind.i64.wrap y1ab) ∧ (IntKind.i64.wrap y1ab) ≤ (IntKind.i64.wrap y1ab) ∧ (IntKind.i64.wrap y1ab) ≤ (LIM : Int)))
 (.get (iter1 f63_L0 FUEL (((((min (List.length (List.replicate (Int.toNat (IntKind.i64.wrap y1ab)) (0 : Int))) (List.length a0)) : Nat) : Int), ()), ((List.take 0 (List.replicate (Int.toNat (IntKind.i64.wrap y1ab)) (0 : Int)) ++ List.take (min (List.length (List.replicate (Int.toNat (IntKind.i64.wrap y1ab)) (0 : Int))) (List.length a0)) a0 ++ List.drop (0 + (min (List.length (List.replicate (Int.toNat (IntKind.i64.wrap y1ab)) (0 : Int))) (List.length a0))) (List.replicate (Int.toNat (IntKind.i64.wrap y1ab)) (0 : Int))), ()))) fun y2 =>
 .ret (((y2.2.1, ()), ()), ((), (), ())))
 .fail))
 .fail)
abbrev f63_s0 : List (Nat × VSlot) := [(64000000, .arr tyI)]
def f63_A : Nat → Option LoopAnn := fun n => annOf [(0, ⟨⟨dd 7 ++ [.srf 64000000, .i .i64] ++ dd 39, f63_s0⟩, ⟨dd 7 ++ [.srf 64000000] ++ dd 40, f63_s0⟩, none, false⟩)] n
def k63_V := fun a0 a1 => (f63_tree a0 a1).eval
def k63 : Con := { f := 63, lend := true, its := [⟨false, false, [.ro tyI]⟩, ⟨false, false, [.i .i64]⟩], lay := [none, none], rs := [⟨false, false, [.own tyI]⟩], F := fun x => .get (k63_V x.1.1 x.2.1.1) fun y => .ret y }
theorem f63_eq (x : itemsD k63.its) : bo [k147] f63_A Tryz.f63 k63 [.tmp 4] x = f63_tree x.1.1 x.2.1.1 := by kernel_rfl
theorem k63_ok : k63.Ok Tryz.prog := con_fn [k147] ⟨k147_ok, trivial⟩ f63_eq fun _ _ _ hy => (eval_get_ret _).symm.trans hy
def f29_tree  : Out (((List Int × Unit) × Unit) × (Unit)) :=
 .get (k63_V ([(-1 : Int)] : List Int) (4 : Int)) fun y1 =>
 .ret (((y1.1.1.1, ()), ()), ())
def k29_V := (f29_tree ).eval
def k29 : Con := { f := 29, lend := true, its := [], lay := [], rs := [⟨false, false, [.own tyI]⟩], F := fun x => .get (k29_V) fun y => .ret y }
theorem f29_eq (x : itemsD k29.its) : bo [k63] (fun _ => none) Tryz.f29 k29 [.tmp 0] x = f29_tree  := by kernel_rfl
theorem k29_ok : k29.Ok Tryz.prog := con_fn [k63] ⟨k63_ok, trivial⟩ f29_eq fun _ _ _ hy => (eval_get_ret _).symm.trans hy
def f151_tree  : Out (((List Int × Unit) × Unit) × (Unit)) :=
 .get (k63_V ([(-1 : Int)] : List Int) (3 : Int)) fun y1 =>
 .ret (((y1.1.1.1, ()), ()), ())
def k151_V := (f151_tree ).eval
def k151 : Con := { f := 151, lend := true, its := [], lay := [], rs := [⟨false, false, [.own tyI]⟩], F := fun x => .get (k151_V) fun y => .ret y }
theorem f151_eq (x : itemsD k151.its) : bo [k63] (fun _ => none) Tryz.f151 k151 [.tmp 0] x = f151_tree  := by kernel_rfl
theorem k151_ok : k151.Ok Tryz.prog := con_fn [k63] ⟨k63_ok, trivial⟩ f151_eq fun _ _ _ hy => (eval_get_ret _).symm.trans hy
def f231_tree  : Out ((XB × Unit) × (Unit)) :=
 .ite (decide (0 ≤ (4 : Int) ∧ (4 : Int) ≤ (4 : Int) ∧ (4 : Int) ≤ (LIM : Int)))
 (.get k151_V fun y1 =>
 .get k29_V fun y2 =>
 .ret (((false, 0, 0, 0, 0, 0, 0, 0, (List.replicate (Int.toNat (4 : Int)) (0 : Int)), y1.1.1.1, y2.1.1.1, ()), ()), ()))
 .fail
def k231_V := (f231_tree ).eval
def k231 : Con := { f := 231, lend := true, its := [], lay := [], rs := [⟨false, true, [.b, .i .i64, .i .i64, .i .i64, .i .i64, .i .i64, .i .i64, .i .i64, .own tyI, .own tyI, .own tyI]⟩], F := fun x => .get (k231_V) fun y => .ret y }
theorem f231_eq (x : itemsD k231.its) : bo [k151, k29] (fun _ => none) Tryz.f231 k231 [.cell 0 134] x = f231_tree  := by kernel_rfl
theorem k231_ok : k231.Ok Tryz.prog := con_fn [k151, k29] ⟨k151_ok, k29_ok, trivial⟩ f231_eq fun _ _ _ hy => (eval_get_ret _).symm.trans hy
abbrev f150_S0 := (Int × Unit) × XA
def f150_L0 : f150_S0 → Out (Round f150_S0 ((Unit) × XA) Empty)
| ((p0, _), (p1, p2, p3, p4, p5, _), (p6, p7, p8, p9, p10, _), p11, p12, p13, p14, p15, p16, p17, p18, p19, p20, p21, p22, p23, p24, p25, p26, p27, p28, _) =>
 .ite (decide (p0 < 6))
 (.get k231_V fun (((y1aa, y1ab, y1ac, y1ad, y1ae, y1af, y1ag, y1ah, y1ai, y1aj, y1ak, _), _), _) =>
 .ite (decide (List.length p21 + List.length ([(y1aa, y1ab, y1ac, y1ad, y1ae, y1af, y1ag, y1ah, y1ai, y1aj, y1ak, ())] : List (XB)) ≤ LIM))
 (.ret (.again (((IntKind.i64.wrap (p0 + 1)), ()), ((p1, p2, p3, p4, p5, ()), (p6, p7, p8, p9, p10, ()), p11, p12, p13, p14, p15, p16, p17, p18, p19, p20, (p21 ++ ([(y1aa, y1ab, y1ac, y1ad, y1ae, y1af, y1ag, y1ah, y1ai, y1aj, y1ak, ())] : List (XB))), p22, p23, p24, p25, p26, p27, p28, ()))))
 .fail)
 (.ret (.out ((), ((p1, p2, p3, p4, p5, ()), (p6, p7, p8, p9, p10, ()), p11, p12, p13, p14, p15, p16, p17, p18, p19, p20, p21, p22, p23, p24, p25, p26, p27, p28, ()))))
abbrev f150_S2 := (Int × Unit) × XA
def f150_L2 : f150_S2 → Out (Round f150_S2 ((Unit) × XA) Empty)
| ((p0, _), (p1, p2, p3, p4, p5, _), (p6, p7, p8, p9, p10, _), p11, p12, p13, p14, p15, p16, p17, p18, p19, p20, p21, p22, p23, p24, p25, p26, p27, p28, _) =>
 .ite (decide (p0 < 3))
 (.ite (decide (0 ≤ (4 : Int) ∧ (4 : Int) ≤ (4 : Int) ∧ (4 : Int) ≤ (LIM : Int)))
 (.ite (decide (List.length p25 + List.length ([(false, (List.replicate (Int.toNat (4 : Int)) (0 : Int)), 0, 0, ())] : List ((Bool × XE))) ≤ LIM))
 (.ret (.again (((IntKind.i64.wrap (p0 + 1)), ()), ((p1, p2, p3, p4, p5, ()), (p6, p7, p8, p9, p10, ()), p11, p12, p13, p14, p15, p16, p17, p18, p19, p20, p21, p22, p23, p24, (p25 ++ ([(false, (List.replicate (Int.toNat (4 : Int)) (0 : Int)), 0, 0, ())] : List ((Bool × XE)))), p26, p27, p28, ()))))
 .fail)
 .fail)
 (.ret (.out ((), ((p1, p2, p3, p4, p5, ()), (p6, p7, p8, p9, p10, ()), p11, p12, p13, p14, p15, p16, p17, p18, p19, p20, p21, p22, p23, p24, p25, p26, p27, p28, ()))))
def f150_tree  : Out ((XG × Unit) × (Unit)) :=
 .ite (decide (0 ≤ (64 : Int) ∧ (64 : Int) ≤ (64 : Int) ∧ (64 : Int) ≤ (LIM : Int)))
 (.ite (decide (0 ≤ (16 : Int) ∧ (16 : Int) ≤ (16 : Int) ∧ (16 : Int) ≤ (LIM : Int)))
 (.ite (decide (0 ≤ (8 : Int) ∧ (8 : Int) ≤ (8 : Int) ∧ (8 : Int) ≤ (LIM : Int)))
 (.ite (decide (0 ≤ (6 : Int) ∧ (6 : Int) ≤ (6 : Int) ∧ (6 : Int) ≤ (LIM : Int)))
 (.ite (decide (0 ≤ (6 : Int) ∧ (6 : Int) ≤ (6 : Int) ∧ (6 : Int) ≤ (LIM : Int)))
 (.get (iter1 f150_L0 FUEL ((0, ()), ((0, 0, false, 0, 0, ()), (0, 0, false, 0, 0, ()), ([] : List (List InsD)), ([] : List (XB)), ([] : List Int), ([] : List (Bool)), ([] : List (XF)), ([] : List ((Bool × XE))), ([] : List (XK)), ([] : List Int), ([] : List Int), ([] : List (List InsD)), ([] : List (XB)), (List.replicate (Int.toNat (64 : Int)) (0 : Int)), (List.replicate (Int.toNat (16 : Int)) false), (List.replicate (Int.toNat (8 : Int)) (false, (0, (0, (0, (0, ())))))), ([] : List ((Bool × XE))), (List.replicate (Int.toNat (6 : Int)) (false, (([] : List Int), ()))), (List.replicate (Int.toNat (6 : Int)) (0 : Int)), ([] : List Int), ()))) fun (_, (y1aa, y1ab, y1ac, y1ad, y1ae, _), (y1af, y1ag, y1ah, y1ai, y1aj, _), y1ak, y1al, y1am, y1an, y1ao, y1ap, y1aq, y1ar, y1as, y1at, y1au, y1av, y1aw, y1ax, y1ay, y1az, y1ba, y1bb, _) =>
 .get (iter1 f150_L2 FUEL ((0, ()), ((y1aa, y1ab, y1ac, y1ad, y1ae, ()), (y1af, y1ag, y1ah, y1ai, y1aj, ()), y1ak, y1al, y1am, y1an, y1ao, y1ap, y1aq, y1ar, y1as, y1at, y1au, y1av, y1aw, y1ax, y1ay, y1az, y1ba, y1bb, ()))) fun (_, _, (y2aa, y2ab, y2ac, y2ad, y2ae, _), _, _, _, _, _, _, _, _, _, y2af, y2ag, y2ah, y2ai, y2aj, y2ak, y2al, y2am, y2an, _) =>
 .ret (((y2aa, y2ab, y2af, y2ag, y2ah, y2ai, y2aj, y2ak, y2al, y2ac, y2am, y2ad, y2ae, y2an, ()), ()), ()))
 .fail)
 .fail)
 .fail)
 .fail)
 .fail
abbrev f150_s1 : List (Nat × VSlot) := [(64000000, .var [.i .i64, .i .i64, .srf 64000002, .srf 64000003, .srf 64000004, .srf 64000005, .srf 64000006, .srf 64000007, .srf 64000008, .b, .srf 64000009, .i .i64, .i .i64, .srf 64000010]), (64000001, .var [.i .i64, .i .i64, .srf 64000011, .srf 64000012, .srf 64000013, .srf 64000014, .srf 64000015, .srf 64000016, .srf 64000017, .b, .srf 64000018, .i .i64, .i .i64, .srf 64000019]), (64000002, .arr (.sl tyN)), (64000003, .arr tyQ), (64000004, .arr tyI), (64000005, .arr .bool), (64000006, .arr tyS), (64000007, .arr tyR), (64000008, .arr tyT), (64000009, .arr tyI), (64000010, .arr tyI), (64000011, .arr (.sl tyN)), (64000012, .arr tyQ), (64000013, .arr tyI), (64000014, .arr .bool), (64000015, .arr tyS), (64000016, .arr tyR), (64000017, .arr tyT), (64000018, .arr tyI), (64000019, .arr tyI)]
def f150_A : Nat → Option LoopAnn := fun n => annOf [(0, ⟨⟨[.vptr 64000000 0, .vptr 64000001 0] ++ dd 7 ++ [.i .i64] ++ dd 19, f150_s1⟩, ⟨[.vptr 64000000 0, .vptr 64000001 0] ++ dd 27, f150_s1⟩, none, false⟩), (2, ⟨⟨[.vptr 64000000 0, .vptr 64000001 0] ++ dd 16 ++ [.i .i64] ++ dd 10, f150_s1⟩, ⟨[.vptr 64000000 0, .vptr 64000001 0] ++ dd 27, f150_s1⟩, none, false⟩)] n
def k150_V := (f150_tree ).eval
def k150 : Con := { f := 150, lend := true, its := [], lay := [], rs := [⟨false, true, [.i .i64, .i .i64, .own (.sl tyN), .own tyQ, .own tyI, .own .bool, .own tyS, .own tyR, .own tyT, .b, .own tyI, .i .i64, .i .i64, .own tyI]⟩], F := fun x => .get (k150_V) fun y => .ret y }
theorem f150_eq (x : itemsD k150.its) : bo [k231] f150_A Tryz.f150 k150 [.cell 0 43] x = f150_tree  := by kernel_rfl
theorem k150_ok : k150.Ok Tryz.prog := con_fn [k231] ⟨k231_ok, trivial⟩ f150_eq fun _ _ _ hy => (eval_get_ret _).symm.trans hy
abbrev f30_S0 := (List (List InsD) × Int × Int × Unit) × (List (List InsD) × Unit)
def f30_L0 : f30_S0 → Out (Round f30_S0 ((Unit) × (List (List InsD) × Unit)) Empty)
| ((p0, p1, p2, _), p3, _) =>
 .ite (decide (p2 < p1))
 (.ite (decide (0 ≤ p2))
 (.get (nth p0 (Int.toNat p2)) fun y1 =>
 .get (cloneV y1) fun y2 =>
 .ite (decide (List.length p3 + List.length ([y2] : List (List InsD)) ≤ LIM))
 (.ret (.again ((p0, p1, (IntKind.i64.wrap (p2 + 1)), ()), ((p3 ++ ([y2] : List (List InsD))), ()))))
 .fail)
 .fail)
 (.ret (.out ((), (p3, ()))))
def f30_tree (a0 : List (List InsD)) : Out (((List (List InsD) × Unit) × Unit) × (Unit × Unit)) :=
 .get (iter1 f30_L0 FUEL ((a0, ((List.length a0 : Nat) : Int), 0, ()), (([] : List (List InsD)), ()))) fun y1 =>
 .ret (((y1.2.1, ()), ()), ((), ()))
abbrev f30_s2 : List (Nat × VSlot) := [(64000000, .arr (.sl tyN))]
def f30_A : Nat → Option LoopAnn := fun n => annOf [(0, ⟨⟨[.dead, .dead, .dead, .srf 64000000, .dead, .dead, .ro (.sl tyN) (some 0), .i .i64, .i .i64] ++ dd 10, f30_s2⟩, ⟨[.dead, .dead, .dead, .srf 64000000] ++ dd 15, f30_s2⟩, none, false⟩)] n
def k30_V := fun a0 => (f30_tree a0).eval
def k30 : Con := { f := 30, lend := true, its := [⟨false, false, [.ro (.sl tyN)]⟩], lay := [none], rs := [⟨false, false, [.own (.sl tyN)]⟩], F := fun x => .get (k30_V x.1.1) fun y => .ret y }
theorem f30_eq (x : itemsD k30.its) : bo [k64] f30_A Tryz.f30 k30 [.tmp 2] x = f30_tree x.1.1 := by kernel_rfl
theorem k30_ok : k30.Ok Tryz.prog := con_fn [k64] ⟨k64_ok, trivial⟩ f30_eq fun _ _ _ hy => (eval_get_ret _).symm.trans hy
abbrev f91_S0 := (List CpuD × Int × Int × Unit) × (List CpuD × Unit)
def f91_L0 : f91_S0 → Out (Round f91_S0 ((Unit) × (List CpuD × Unit)) Empty)
| ((p0, p1, p2, _), p3, _) =>
 .ite (decide (p2 < p1))
 (.ite (decide (0 ≤ p2))
 (.get (nth p0 (Int.toNat p2)) fun y1 =>
 .get (cloneV y1.2.1) fun y2 =>
 .ite (decide (List.length p3 + List.length ([(y1.1, y2, ())] : List CpuD) ≤ LIM))
 (.ret (.again ((p0, p1, (IntKind.i64.wrap (p2 + 1)), ()), ((p3 ++ ([(y1.1, y2, ())] : List CpuD)), ()))))
 .fail)
 .fail)
 (.ret (.out ((), (p3, ()))))
def f91_tree (a0 : List CpuD) : Out (((List CpuD × Unit) × Unit) × (Unit × Unit)) :=
 .get (iter1 f91_L0 FUEL ((a0, ((List.length a0 : Nat) : Int), 0, ()), (([] : List CpuD), ()))) fun y1 =>
 .ret (((y1.2.1, ()), ()), ((), ()))
def f91_A : Nat → Option LoopAnn := fun n => annOf [(0, ⟨⟨[.dead, .dead, .dead, .srf 64000000, .dead, .dead, .ro tyF (some 0), .i .i64, .i .i64] ++ dd 14, [(64000000, .arr tyF)]⟩, ⟨[.dead, .dead, .dead, .srf 64000000] ++ dd 19, [(64000000, .arr tyF)]⟩, none, false⟩)] n
def k91_V := fun a0 => (f91_tree a0).eval
def k91 : Con := { f := 91, lend := true, its := [⟨false, false, [.ro tyF]⟩], lay := [none], rs := [⟨false, false, [.own tyF]⟩], F := fun x => .get (k91_V x.1.1) fun y => .ret y }
theorem f91_eq (x : itemsD k91.its) : bo [k84] f91_A Tryz.f91 k91 [.tmp 2] x = f91_tree x.1.1 := by kernel_rfl
theorem k91_ok : k91.Ok Tryz.prog := con_fn [k84] ⟨k84_ok, trivial⟩ f91_eq fun _ _ _ hy => (eval_get_ret _).symm.trans hy
def f27_tree (a0 : List InsD) : Out (((Bool × Unit) × Unit) × (Unit × Unit)) :=
 .ret ((((!(progOkV a0)), ()), ()), ((), ()))
def k27 : Con := { f := 27, lend := true, its := [⟨false, false, [.ro tyN]⟩], lay := [none], rs := [⟨false, false, [.b]⟩], F := fun x => .ret ((((notProgV x.1.1), ()), ()), ((), ())) }
theorem f27_eq (x : itemsD k27.its) : bo [k28] (fun _ => none) Tryz.f27 k27 [.tmp 2] x = f27_tree x.1.1 := by kernel_rfl
theorem f27_ok (hr : ∀ x : (List InsD × Unit) × Unit, itemsWF k27.its x → (f27_tree x.1.1).eval = (k27.F x).eval) : k27.Ok Tryz.prog := con_fn [k28] ⟨k28_ok, trivial⟩ f27_eq fun x hw _ hy => (hr x hw).trans hy
theorem k27_ok : k27.Ok Tryz.prog := by
  refine f27_ok fun x hw => ?_
  obtain ⟨⟨a0, _⟩, _⟩ := x
  have l0 : List.length a0 ≤ BIG := hw.1.1.1
  show (f27_tree a0).eval = some ((((notProgV a0), ()), ()), ((), ()))
  unfold f27_tree notProgV
  simp only [Out.eval, cond_eq_ite]
  all_goals ((repeat' split) <;> simp_all)
abbrev f59b_S0 := (List (List InsD) × Int × Int × Unit) × (Unit)
def f59b_L0 : f59b_S0 → Out (Round f59b_S0 ((Unit) × (Unit)) ((Int × Unit) × (Unit)))
| ((p0, p1, p2, _), _) =>
 .ite (decide (p2 < p1))
 (.ite (decide (0 ≤ p2))
 (.get (nth p0 (Int.toNat p2)) fun y1 =>
 .ite (notProgV y1)
 (.ret (.ret ((p2, ()), ())))
 (.ret (.again ((p0, p1, (IntKind.i64.wrap (p2 + 1)), ()), ()))))
 .fail)
 (.ret (.out ((), ())))
def f59b_tree (a0 : List (List InsD)) : Out (((Int × Unit) × Unit) × (Unit × Unit)) :=
 .get (iter f59b_L0 FUEL ((a0, ((List.length a0 : Nat) : Int), 0, ()), ())) fun y1 => .alt y1 (fun y2 =>
 .ret (((-1, ()), ()), ((), ()))) (fun y3 =>
 .ret (((y3.1.1, ()), ()), ((), ())))
def f59b_A : Nat → Option LoopAnn := fun n => annOf [(0, ⟨⟨[.ro (.sl tyN) (some 0), .fn 27 []] ++ dd 5 ++ [.i .i64, .i .i64] ++ dd 10, []⟩, ⟨dd 19, []⟩, some ⟨dd 4 ++ [.i .i64] ++ dd 14, []⟩, false⟩)] n
def k59b : Con := { f := 59, lend := true, its := [⟨false, false, [.ro (.sl tyN)]⟩], lay := [none, some (27, 0)], rs := [⟨false, false, [.i .i64]⟩], F := fun x => .ret ((((notProgIdxV x.1.1), ()), ()), ((), ())) }
theorem f59b_eq (x : itemsD k59b.its) : bo [k27] f59b_A Tryz.f59 k59b [.tmp 4] x = f59b_tree x.1.1 := by kernel_rfl
theorem f59b_ok (hr : ∀ x : (List (List InsD) × Unit) × Unit, itemsWF k59b.its x → (f59b_tree x.1.1).eval = (k59b.F x).eval) : k59b.Ok Tryz.prog := con_fn [k27] ⟨k27_ok, trivial⟩ f59b_eq fun x hw _ hy => (hr x hw).trans hy
theorem k59b_ok : k59b.Ok Tryz.prog := by
  refine f59b_ok fun x hw => ?_
  obtain ⟨⟨a0, _⟩, _⟩ := x
  have l0 : List.length a0 ≤ BIG := hw.1.1.1
  show (f59b_tree a0).eval = some ((((notProgIdxV a0), ()), ()), ((), ()))
  unfold f59b_tree notProgIdxV
  have h : iter f59b_L0 FUEL ((a0, ((List.length a0 : Nat) : Int), 0, ()), ()) = some (match List.findIdx? notProgV a0 with | some i => .inr ((((i : Nat) : Int), ()), ()) | none => .inl ((), ())) := idx_loop (f := f59b_L0) a0 notProgV (fun i => ((a0, ((List.length a0 : Nat) : Int), ((i : Nat) : Int), ()), ())) (y := ((), ())) (z := fun i => ((((i : Nat) : Int), ()), ()))
      (fun i hi hp => by
        have h1 := wrap_succ (i := i) (by omega)
        simp [f59b_L0, Out.eval, hi, h1, cond_eq_ite] at hp ⊢ <;> (try simp_all) <;> (try (rcases hp with h | h <;> simp_all)))
      (fun i hi hp => by simp [f59b_L0, Out.eval, hi, cond_eq_ite] at hp ⊢ <;> (try simp_all) <;> (try (rcases hp with h | h <;> simp_all)))
      (by simp [f59b_L0, Out.eval]) l0
  refine (eval_get_some h).trans ?_
  cases List.findIdx? notProgV a0 <;> rfl
def f26b_tree (a0 : List (List InsD)) : Out (((Bool × Unit) × Unit) × (Unit × Unit)) :=
 .ret ((((decide ((notProgIdxV a0) ≥ (0 : Int))), ()), ()), ((), ()))
def k26b : Con := { f := 26, lend := true, its := [⟨false, false, [.ro (.sl tyN)]⟩], lay := [none, some (27, 0)], rs := [⟨false, false, [.b]⟩], F := fun x => .ret ((((anyNotProgV x.1.1), ()), ()), ((), ())) }
theorem f26b_eq (x : itemsD k26b.its) : bo [k59b] (fun _ => none) Tryz.f26 k26b [.tmp 4] x = f26b_tree x.1.1 := by kernel_rfl
theorem f26b_ok (hr : ∀ x : (List (List InsD) × Unit) × Unit, itemsWF k26b.its x → (f26b_tree x.1.1).eval = (k26b.F x).eval) : k26b.Ok Tryz.prog := con_fn [k59b] ⟨k59b_ok, trivial⟩ f26b_eq fun x hw _ hy => (hr x hw).trans hy
theorem k26b_ok : k26b.Ok Tryz.prog := by
  refine f26b_ok fun x hw => ?_
  obtain ⟨⟨a0, _⟩, _⟩ := x
  have l0 : List.length a0 ≤ BIG := hw.1.1.1
  show (f26b_tree a0).eval = some ((((anyNotProgV a0), ()), ()), ((), ()))
  unfold f26b_tree anyNotProgV notProgIdxV
  rw [idxV_ge]
  rfl
def f7_tree (a0 : List (List InsD)) : Out ((UnixD × (Bool × Unit) × Unit) × (Unit × Unit)) :=
 .ite ((!(inV ((List.length a0 : Nat) : Int) (1 : Int) (4 : Int))) == false)
 (.ite (anyNotProgV a0)
 (.ret (((0, 0, ([] : List (List InsD)), ([] : List ProcD), ([] : List OpenD), ([] : List CpuD), ([] : List CpuD), ([] : List Int), ([] : List Int), ()), (false, ()), ()), ((), ())))
 (.ite (decide (0 ≤ (4 : Int) ∧ (4 : Int) ≤ (4 : Int) ∧ (4 : Int) ≤ (LIM : Int)))
 (.ite (decide (0 ≤ (4 : Int) ∧ (4 : Int) ≤ (4 : Int) ∧ (4 : Int) ≤ (LIM : Int)))
 (.get k29_V fun y1 =>
 .ite (decide (0 ≤ (0 : Int) ∧ (0 : Int) < ((List.length y1.1.1.1 : Nat) : Int)))
 (.get (nth y1.1.1.1 (Int.toNat (0 : Int))) fun y2 =>
 .ite (decide (0 ≤ (1 : Int) ∧ (1 : Int) < ((List.length (List.set y1.1.1.1 (Int.toNat (0 : Int)) (0 : Int)) : Nat) : Int)))
 (.get (nth (List.set y1.1.1.1 (Int.toNat (0 : Int)) (0 : Int)) (Int.toNat (1 : Int))) fun y3 =>
 .get (k30_V a0) fun y4 =>
 .ret (((2, 0, y4.1.1.1, ([(1, 0, 1, 0, (0, (List.replicate (Int.toNat (4 : Int)) (0 : Int)), ()), (List.replicate (Int.toNat (4 : Int)) (0 : Int)), (List.set (List.set y1.1.1.1 (Int.toNat (0 : Int)) (0 : Int)) (Int.toNat (1 : Int)) (0 : Int)), 0, 0, ())] : List ProcD), ([(0, 1, 0, 0, 2, ())] : List OpenD), ([] : List CpuD), ([] : List CpuD), ([(1 : Int)] : List Int), ([] : List Int), ()), (true, ()), ()), ((), ())))
 .fail)
 .fail)
 .fail)
 .fail))
 (.ret (((0, 0, ([] : List (List InsD)), ([] : List ProcD), ([] : List OpenD), ([] : List CpuD), ([] : List CpuD), ([] : List Int), ([] : List Int), ()), (false, ()), ()), ((), ())))
def k7_V := fun a0 => (f7_tree a0).eval
def k7 : Con := { f := 7, lend := true, its := [⟨false, false, [.ro (.sl tyN)]⟩], lay := [none], rs := [⟨false, true, [.i .i64, .i .i64, .own (.sl tyN), .own tyP, .own tyO, .own tyF, .own tyF, .own tyI, .own tyI]⟩, ⟨false, false, [.b]⟩], F := fun x => .get (k7_V x.1.1) fun y => .ret y }
theorem f7_eq (x : itemsD k7.its) : bo [k25, k26b, k29, k30] (fun _ => none) Tryz.f7 k7 [.cell 2 32, .tmp 3] x = f7_tree x.1.1 := by kernel_rfl
theorem k7_ok : k7.Ok Tryz.prog := con_fn [k25, k26b, k29, k30] ⟨k25_ok, k26b_ok, k29_ok, k30_ok, trivial⟩ f7_eq fun _ _ _ hy => (eval_get_ret _).symm.trans hy
abbrev f280_S0 := (List (Bool) × Bool × Int × Int × Unit) × (Unit)
def f280_L0 : f280_S0 → Out (Round f280_S0 ((Unit) × (Unit)) ((Int × Unit) × (Unit)))
| ((p0, p1, p2, p3, _), _) =>
 .ite (decide (p3 < p2))
 (.ite (decide (0 ≤ p3))
 (.get (nth p0 (Int.toNat p3)) fun y1 =>
 .ite (p1 == y1)
 (.ret (.ret ((p3, ()), ())))
 (.ret (.again ((p0, p1, p2, (IntKind.i64.wrap (p3 + 1)), ()), ()))))
 .fail)
 (.ret (.out ((), ())))
def f280_tree (a0 : List Bool) (a1 : Bool) : Out (((Int × Unit) × Unit) × XI) :=
 .get (iter f280_L0 FUEL ((a0, a1, ((List.length a0 : Nat) : Int), 0, ()), ())) fun y1 => .alt y1 (fun y2 =>
 .ret (((-1, ()), ()), ((), (), ()))) (fun y3 =>
 .ret (((y3.1.1, ()), ()), ((), (), ())))
def f280_A : Nat → Option LoopAnn := fun n => annOf [(0, ⟨⟨[.ro .bool (some 0), .b] ++ dd 5 ++ [.i .i64, .i .i64] ++ dd 10, []⟩, ⟨dd 19, []⟩, some ⟨dd 4 ++ [.i .i64] ++ dd 14, []⟩, false⟩)] n
def k280_V := fun a0 a1 => (f280_tree a0 a1).eval
def k280 : Con := { f := 280, lend := true, its := [⟨false, false, [.ro .bool]⟩, ⟨false, false, [.b]⟩], lay := [none, none], rs := [⟨false, false, [.i .i64]⟩], F := fun x => .get (k280_V x.1.1 x.2.1.1) fun y => .ret y }
theorem f280_eq (x : itemsD k280.its) : bo [] f280_A Tryz.f280 k280 [.tmp 4] x = f280_tree x.1.1 x.2.1.1 := by kernel_rfl
theorem k280_ok : k280.Ok Tryz.prog := con_fn [] trivial f280_eq fun _ _ _ hy => (eval_get_ret _).symm.trans hy
def f173_tree (a0 : List Bool) : Out (((Bool × Unit) × Unit) × (Unit × Unit)) :=
 .ret (((((((List.length a0 : Nat) : Int) == 16)), ()), ()), ((), ()))
def k173_V := fun a0 => (f173_tree a0).eval
def k173 : Con := { f := 173, lend := true, its := [⟨false, false, [.ro .bool]⟩], lay := [none], rs := [⟨false, false, [.b]⟩], F := fun x => .get (k173_V x.1.1) fun y => .ret y }
theorem f173_eq (x : itemsD k173.its) : bo [] (fun _ => none) Tryz.f173 k173 [.tmp 2] x = f173_tree x.1.1 := by kernel_rfl
theorem k173_ok : k173.Ok Tryz.prog := con_fn [] trivial f173_eq fun _ _ _ hy => (eval_get_ret _).symm.trans hy
def f232_tree (a0 : List Bool) : Out (((List Bool × Unit) × (Int × Unit) × Unit) × (Unit × Unit)) :=
 .get (k173_V a0) fun y1 =>
 .ite (!y1.1.1.1)
 (.ret (((([] : List (Bool)), ()), (-1, ()), ()), ((), ())))
 (.get (cloneV a0) fun y2 =>
 .get (k280_V a0 false) fun y3 =>
 .ite (decide (y3.1.1.1 ≥ (0 : Int)))
 (.ite (decide (0 ≤ y3.1.1.1 ∧ y3.1.1.1 < ((List.length y2 : Nat) : Int)))
 (.get (nth y2 (Int.toNat y3.1.1.1)) fun y4 =>
 .ret ((((List.set y2 (Int.toNat y3.1.1.1) true), ()), (y3.1.1.1, ()), ()), ((), ())))
 .fail)
 (.ret (((y2, ()), (y3.1.1.1, ()), ()), ((), ()))))
def k232_V := fun a0 => (f232_tree a0).eval
def k232 : Con := { f := 232, lend := true, its := [⟨false, false, [.ro .bool]⟩], lay := [none], rs := [⟨false, false, [.own .bool]⟩, ⟨false, false, [.i .i64]⟩], F := fun x => .get (k232_V x.1.1) fun y => .ret y }
theorem f232_eq (x : itemsD k232.its) : bo [k173, k279, k280] (fun _ => none) Tryz.f232 k232 [.tmp 2, .tmp 3] x = f232_tree x.1.1 := by kernel_rfl
theorem k232_ok : k232.Ok Tryz.prog := con_fn [k173, k279, k280] ⟨k173_ok, k279_ok, k280_ok, trivial⟩ f232_eq fun _ _ _ hy => (eval_get_ret _).symm.trans hy
def f152_tree (a0 : Int) (a1 : Int) (a2 : List (List InsD)) (a3 : List XB) (a4 : List Int) (a5 : List Bool) (a6 : List XF) (a7 : List (Bool × XE)) (a8 : List XK) (a9 : Bool) (a10 : List Int) (a11 : Int) (a12 : Int) (a13 : List Int) (a14 : List Int) : Out (((Int × Unit) × Unit) × (XG × Unit × Unit)) :=
 .get (k232_V a5) fun (((y1aa, _), (y1ab, _), _), _) =>
 .ite (decide (y1ab ≥ (0 : Int)))
 (.ite (decide (0 ≤ (frameAt y1ab).1 ∧ (frameAt y1ab).1 ≤ (frameAt y1ab).2 ∧ (frameAt y1ab).2 ≤ ((List.length a4 : Nat) : Int)))
 (.ret (((y1ab, ()), ()), ((a0, a1, a2, a3, (List.take (0 + Int.toNat (frameAt y1ab).1) a4 ++ List.take (min ((Int.toNat (frameAt y1ab).2 - Int.toNat (frameAt y1ab).1)) (List.length a14)) a14 ++ List.drop ((0 + Int.toNat (frameAt y1ab).1) + (min ((Int.toNat (frameAt y1ab).2 - Int.toNat (frameAt y1ab).1)) (List.length a14))) a4), y1aa, a6, a7, a8, a9, a10, a11, a12, a13, ()), (), ())))
 .fail)
 (.ret (((y1ab, ()), ()), ((a0, a1, a2, a3, a4, y1aa, a6, a7, a8, a9, a10, a11, a12, a13, ()), (), ())))
def k152_V := fun a0 a1 a2 a3 a4 a5 a6 a7 a8 a9 a10 a11 a12 a13 a14 => (f152_tree a0 a1 a2 a3 a4 a5 a6 a7 a8 a9 a10 a11 a12 a13 a14).eval
def k152 : Con := { f := 152, lend := true, its := [⟨true, false, [.i .i64, .i .i64, .own (.sl tyN), .own tyQ, .own tyI, .own .bool, .own tyS, .own tyR, .own tyT, .b, .own tyI, .i .i64, .i .i64, .own tyI]⟩, ⟨false, false, [.ro tyI]⟩], lay := [none, none], rs := [⟨false, false, [.i .i64]⟩], F := fun x => .get (k152_V x.1.1 x.1.2.1 x.1.2.2.1 x.1.2.2.2.1 x.1.2.2.2.2.1 x.1.2.2.2.2.2.1 x.1.2.2.2.2.2.2.1 x.1.2.2.2.2.2.2.2.1 x.1.2.2.2.2.2.2.2.2.1 x.1.2.2.2.2.2.2.2.2.2.1 x.1.2.2.2.2.2.2.2.2.2.2.1 x.1.2.2.2.2.2.2.2.2.2.2.2.1 x.1.2.2.2.2.2.2.2.2.2.2.2.2.1 x.1.2.2.2.2.2.2.2.2.2.2.2.2.2.1 x.2.1.1) fun y => .ret y }
theorem f152_eq (x : itemsD k152.its) : bo [k232, k184] (fun _ => none) Tryz.f152 k152 [.tmp 4] x = f152_tree x.1.1 x.1.2.1 x.1.2.2.1 x.1.2.2.2.1 x.1.2.2.2.2.1 x.1.2.2.2.2.2.1 x.1.2.2.2.2.2.2.1 x.1.2.2.2.2.2.2.2.1 x.1.2.2.2.2.2.2.2.2.1 x.1.2.2.2.2.2.2.2.2.2.1 x.1.2.2.2.2.2.2.2.2.2.2.1 x.1.2.2.2.2.2.2.2.2.2.2.2.1 x.1.2.2.2.2.2.2.2.2.2.2.2.2.1 x.1.2.2.2.2.2.2.2.2.2.2.2.2.2.1 x.2.1.1 := by kernel_rfl
theorem k152_ok : k152.Ok Tryz.prog := con_fn [k232, k184] ⟨k232_ok, k184_ok, trivial⟩ f152_eq fun _ _ _ hy => (eval_get_ret _).symm.trans hy
def f153_tree (a0 : Bool) (a1 : List Int) (a2 : Int) (a3 : Int) (a4 : Int) : Out ((Unit) × ((Bool × XE) × Unit × Unit)) :=
 .ite (((List.length a1 : Nat) : Int) == 0)
 .fail
 (.ite (decide (0 ≤ (Int.tmod (IntKind.i64.wrap (a2 + a3)) ((List.length a1 : Nat) : Int)) ∧ (Int.tmod (IntKind.i64.wrap (a2 + a3)) ((List.length a1 : Nat) : Int)) < ((List.length a1 : Nat) : Int)))
 (.get (nth a1 (Int.toNat (Int.tmod (IntKind.i64.wrap (a2 + a3)) ((List.length a1 : Nat) : Int)))) fun y1 =>
 .ret ((), ((a0, (List.set a1 (Int.toNat (Int.tmod (IntKind.i64.wrap (a2 + a3)) ((List.length a1 : Nat) : Int))) a4), a2, (IntKind.i64.wrap (a3 + 1)), ()), (), ())))
 .fail)
def k153_V := fun a0 a1 a2 a3 a4 => (f153_tree a0 a1 a2 a3 a4).eval
def k153 : Con := { f := 153, lend := true, its := [⟨true, false, [.b, .mut tyI, .i .i64, .i .i64]⟩, ⟨false, false, [.i .i64]⟩], lay := [none, none], rs := [], F := fun x => .get (k153_V x.1.1 x.1.2.1 x.1.2.2.1 x.1.2.2.2.1 x.2.1.1) fun y => .ret y }
theorem f153_eq (x : itemsD k153.its) : bo [] (fun _ => none) Tryz.f153 k153 [] x = f153_tree x.1.1 x.1.2.1 x.1.2.2.1 x.1.2.2.2.1 x.2.1.1 := by kernel_rfl
theorem k153_ok : k153.Ok Tryz.prog := con_fn [] trivial f153_eq fun _ _ _ hy => (eval_get_ret _).symm.trans hy
abbrev f67_S2 := (Int × Int × XS) × (UnixD × XR × XR × XM × XN)
def f67_L2 : f67_S2 → Out (Round f67_S2 ((Int × XS) × (UnixD × XR × XR × XN)) Empty)
| ((p0, p1, p2, p3, p4, _), (p5, p6, p7, p8, p9, p10, p11, p12, p13, _), (p14, p15, p16, p17, p18, _), (p19, p20, p21, p22, p23, _), (p24, p25, p26, p27, p28, p29, p30, p31, p32, p33, _), (p34, p35, p36, p37, p38, p39, p40, p41, _), p42, p43, p44, p45, p46, p47, p48, p49, p50, p51, p52, p53, p54, p55, p56, p57, p58, p59, p60, p61, p62, _) =>
 .ite (decide ((IntKind.i64.wrap (p1 * (4 : Int))) < ((List.length p30 : Nat) : Int)))
 (.ite (decide (0 ≤ (IntKind.i64.wrap (p1 * (4 : Int))) ∧ (IntKind.i64.wrap (p1 * (4 : Int))) ≤ (IntKind.i64.wrap ((IntKind.i64.wrap (p1 + 1)) * (4 : Int))) ∧ (IntKind.i64.wrap ((IntKind.i64.wrap (p1 + 1)) * (4 : Int))) ≤ ((List.length p30 : Nat) : Int)))
 (.get (k152_V p19 p20 p51 p52 p53 p54 p55 p56 p57 p21 p58 p22 p23 p59 (List.drop (Int.toNat (IntKind.i64.wrap (p1 * (4 : Int)))) (List.take (Int.toNat (IntKind.i64.wrap ((IntKind.i64.wrap (p1 + 1)) * (4 : Int)))) p30))) fun (((y1aa, _), _), (y1ab, y1ac, y1ad, y1ae, y1af, y1ag, y1ah, y1ai, y1aj, y1ak, y1al, y1am, y1an, y1ao, _), _) =>
 .ite (decide (0 ≤ p1 ∧ p1 < ((List.length p61 : Nat) : Int)))
 (.get (nth p61 (Int.toNat p1)) fun y2 =>
 .ret (.again ((p0, (IntKind.i64.wrap (p1 + 1)), p2, p3, p4, ()), ((p5, p6, p7, p8, p9, p10, p11, p12, p13, ()), (p14, p15, p16, p17, p18, ()), (y1ab, y1ac, y1ak, y1am, y1an, ()), (p24, p25, p26, p27, p28, p29, p30, p31, p32, p33, ()), (p34, p35, p36, p37, p38, p39, p40, p41, ()), p42, p43, p44, p45, p46, p47, p48, p49, p50, y1ad, y1ae, y1af, y1ag, y1ah, y1ai, y1aj, y1al, y1ao, p60, (List.set p61 (Int.toNat p1) y1aa), p62, ()))))
 .fail)
 .fail)
 (.ret (.out ((p0, p2, p3, p4, ()), ((p5, p6, p7, p8, p9, p10, p11, p12, p13, ()), (p14, p15, p16, p17, p18, ()), (p19, p20, p21, p22, p23, ()), (p34, p35, p36, p37, p38, p39, p40, p41, ()), p42, p43, p44, p45, p46, p47, p48, p49, p50, p51, p52, p53, p54, p55, p56, p57, p58, p59, p60, p61, p62, ()))))
abbrev f67_S0 := XS × (UnixD × XA)
def f67_L0 : f67_S0 → Out (Round f67_S0 ((Unit) × (UnixD × XA)) Empty)
| ((p0, p1, p2, _), (p3, p4, p5, p6, p7, p8, p9, p10, p11, _), (p12, p13, p14, p15, p16, _), (p17, p18, p19, p20, p21, _), p22, p23, p24, p25, p26, p27, p28, p29, p30, p31, p32, p33, p34, p35, p36, p37, p38, p39, _) =>
 .ite (decide (p2 < p1))
 (.ite (decide (0 ≤ p2))
 (.get (nth p0 (Int.toNat p2)) fun (y1aa, y1ab, y1ac, y1ad, (y1ae, y1af, _), y1ag, y1ah, y1ai, y1aj, _) =>
 .get (cloneV y1af) fun y2 =>
 .get k151_V fun y3 =>
 .get (cloneV y1ah) fun y4 =>
 .get (iter1 f67_L2 FUEL ((p2, 0, p0, p1, p2, ()), ((p3, p4, p5, p6, p7, p8, p9, p10, p11, ()), (p12, p13, p14, p15, p16, ()), (p17, p18, p19, p20, p21, ()), (y1aa, y1ab, y1ac, y1ad, y1ae, y1af, y1ag, y1ah, y1ai, y1aj, ()), (true, y1aa, y1ab, y1ac, y1ad, y1ae, y1ai, y1aj, ()), p22, p23, p24, p25, p26, p27, p28, p29, p30, p31, p32, p33, p34, p35, p36, p37, p38, p39, y2, y3.1.1.1, y4, ()))) fun ((y5aa, y5ab, y5ac, y5ad, _), (y5ae, y5af, y5ag, y5ah, y5ai, y5aj, y5ak, y5al, y5am, _), (y5an, y5ao, y5ap, y5aq, y5ar, _), (y5as, y5at, y5au, y5av, y5aw, _), (y5ax, y5ay, y5az, y5ba, y5bb, y5bc, y5bd, y5be, _), y5bf, y5bg, y5bh, y5bi, y5bj, y5bk, y5bl, y5bm, y5bn, y5bo, y5bp, y5bq, y5br, y5bs, y5bt, y5bu, y5bv, y5bw, y5bx, y5by, y5bz, _) =>
 .ite (decide (0 ≤ y5aa ∧ y5aa < ((List.length y5bp : Nat) : Int)))
 (.get (nth y5bp (Int.toNat y5aa)) fun y6 =>
 .ret (.again ((y5ab, y5ac, (IntKind.i64.wrap (y5ad + 1)), ()), ((y5ae, y5af, y5ag, y5ah, y5ai, y5aj, y5ak, y5al, y5am, ()), (y5an, y5ao, y5ap, y5aq, y5ar, ()), (y5as, y5at, y5au, y5av, y5aw, ()), y5bf, y5bg, y5bh, y5bi, y5bj, y5bk, y5bl, y5bm, y5bn, y5bo, (List.set y5bp (Int.toNat y5aa) (y5ax, y5ay, y5az, y5ba, y5bb, y5bc, y5bd, y5be, y5bx, y5by, y5bz, ())), y5bq, y5br, y5bs, y5bt, y5bu, y5bv, y5bw, ()))))
 .fail)
 .fail)
 (.ret (.out ((), ((p3, p4, p5, p6, p7, p8, p9, p10, p11, ()), (p12, p13, p14, p15, p16, ()), (p17, p18, p19, p20, p21, ()), p22, p23, p24, p25, p26, p27, p28, p29, p30, p31, p32, p33, p34, p35, p36, p37, p38, p39, ()))))
abbrev f67_S4 := (List OpenD × Int × Int × Unit) × (UnixD × XA)
def f67_L4 : f67_S4 → Out (Round f67_S4 ((Unit) × (UnixD × XA)) Empty)
| ((p0, p1, p2, _), (p3, p4, p5, p6, p7, p8, p9, p10, p11, _), (p12, p13, p14, p15, p16, _), (p17, p18, p19, p20, p21, _), p22, p23, p24, p25, p26, p27, p28, p29, p30, p31, p32, p33, p34, p35, p36, p37, p38, p39, _) =>
 .ite (decide (p2 < p1))
 (.ite (decide (0 ≤ p2))
 (.get (nth p0 (Int.toNat p2)) fun y1 =>
 .ite (decide (0 ≤ y1.1 ∧ y1.1 < ((List.length p35 : Nat) : Int)))
 (.get (nth p35 (Int.toNat y1.1)) fun y2 =>
 .ret (.again ((p0, p1, (IntKind.i64.wrap (p2 + 1)), ()), ((p3, p4, p5, p6, p7, p8, p9, p10, p11, ()), (p12, p13, p14, p15, p16, ()), (p17, p18, p19, p20, p21, ()), p22, p23, p24, p25, p26, p27, p28, p29, p30, p31, p32, p33, p34, (List.set p35 (Int.toNat y1.1) (true, y1.2.1, y1.2.2.1, y1.2.2.2.1, y1.2.2.2.2.1, ())), p36, p37, p38, p39, ()))))
 .fail)
 .fail)
 (.ret (.out ((), ((p3, p4, p5, p6, p7, p8, p9, p10, p11, ()), (p12, p13, p14, p15, p16, ()), (p17, p18, p19, p20, p21, ()), p22, p23, p24, p25, p26, p27, p28, p29, p30, p31, p32, p33, p34, p35, p36, p37, p38, p39, ()))))
abbrev f67_S8 := (List CpuD × Int × Int × XE) × XU
def f67_L8 : f67_S8 → Out (Round f67_S8 ((List CpuD × Int × Int × Unit) × (UnixD × XA)) Empty)
| ((p0, p1, p2, p3, p4, p5, _), (p6, p7, p8, p9, p10, p11, p12, p13, p14, _), (p15, p16, p17, p18, p19, _), (p20, p21, p22, p23, p24, _), (p25, _), p26, p27, p28, p29, p30, p31, p32, p33, p34, p35, p36, p37, p38, p39, p40, p41, p42, p43, _) =>
 .ite (decide (p5 < p4))
 (.ite (decide (0 ≤ p5))
 (.get (nth p3 (Int.toNat p5)) fun y1 =>
 .ite (decide (0 ≤ p25 ∧ p25 < ((List.length p40 : Nat) : Int)))
 .fail
 .fail)
 .fail)
 (.ret (.out ((p0, p1, p2, ()), ((p6, p7, p8, p9, p10, p11, p12, p13, p14, ()), (p15, p16, p17, p18, p19, ()), (p20, p21, p22, p23, p24, ()), p26, p27, p28, p29, p30, p31, p32, p33, p34, p35, p36, p37, p38, p39, p40, p41, p42, p43, ()))))
abbrev f67_S6 := (List CpuD × Int × Int × Unit) × (UnixD × XA)
def f67_L6 : f67_S6 → Out (Round f67_S6 ((Unit) × (UnixD × XA)) Empty)
| ((p0, p1, p2, _), (p3, p4, p5, p6, p7, p8, p9, p10, p11, _), (p12, p13, p14, p15, p16, _), (p17, p18, p19, p20, p21, _), p22, p23, p24, p25, p26, p27, p28, p29, p30, p31, p32, p33, p34, p35, p36, p37, p38, p39, _) =>
 .ite (decide (p2 < p1))
 (.ite (decide (0 ≤ p2))
 (.get (nth p0 (Int.toNat p2)) fun y1 =>
 .ite (decide (0 ≤ y1.1 ∧ y1.1 < ((List.length p36 : Nat) : Int)))
 (.get (nth p36 (Int.toNat y1.1)) fun y2 =>
 .get (iter1 f67_L8 FUEL ((p0, p1, p2, y1.2.1, ((List.length y1.2.1 : Nat) : Int), 0, ()), ((p3, p4, p5, p6, p7, p8, p9, p10, p11, ()), (p12, p13, p14, p15, p16, ()), (p17, p18, p19, p20, p21, ()), (y1.1, y1.2.1, ()), p22, p23, p24, p25, p26, p27, p28, p29, p30, p31, p32, p33, p34, p35, (List.set p36 (Int.toNat y1.1) (true, y2.2)), p37, p38, p39, ()))) fun ((y3aa, y3ab, y3ac, _), (y3ad, y3ae, y3af, y3ag, y3ah, y3ai, y3aj, y3ak, y3al, _), (y3am, y3an, y3ao, y3ap, y3aq, _), (y3ar, y3as, y3at, y3au, y3av, _), y3aw, y3ax, y3ay, y3az, y3ba, y3bb, y3bc, y3bd, y3be, y3bf, y3bg, y3bh, y3bi, y3bj, y3bk, y3bl, y3bm, y3bn, _) =>
 .ret (.again ((y3aa, y3ab, (IntKind.i64.wrap (y3ac + 1)), ()), ((y3ad, y3ae, y3af, y3ag, y3ah, y3ai, y3aj, y3ak, y3al, ()), (y3am, y3an, y3ao, y3ap, y3aq, ()), (y3ar, y3as, y3at, y3au, y3av, ()), y3aw, y3ax, y3ay, y3az, y3ba, y3bb, y3bc, y3bd, y3be, y3bf, y3bg, y3bh, y3bi, y3bj, y3bk, y3bl, y3bm, y3bn, ()))))
 .fail)
 .fail)
 (.ret (.out ((), ((p3, p4, p5, p6, p7, p8, p9, p10, p11, ()), (p12, p13, p14, p15, p16, ()), (p17, p18, p19, p20, p21, ()), p22, p23, p24, p25, p26, p27, p28, p29, p30, p31, p32, p33, p34, p35, p36, p37, p38, p39, ()))))
abbrev f67_S10 := (List CpuD × Int × Int × Unit) × (UnixD × XA)
def f67_L10 : f67_S10 → Out (Round f67_S10 ((Unit) × (UnixD × XA)) Empty)
| ((p0, p1, p2, _), (p3, p4, p5, p6, p7, p8, p9, p10, p11, _), (p12, p13, p14, p15, p16, _), (p17, p18, p19, p20, p21, _), p22, p23, p24, p25, p26, p27, p28, p29, p30, p31, p32, p33, p34, p35, p36, p37, p38, p39, _) =>
 .ite (decide (p2 < p1))
 (.ite (decide (0 ≤ p2))
 (.get (nth p0 (Int.toNat p2)) fun y1 =>
 .get (cloneV y1.2.1) fun y2 =>
 .ite (decide (0 ≤ y1.1 ∧ y1.1 < ((List.length p37 : Nat) : Int)))
 (.get (nth p37 (Int.toNat y1.1)) fun y3 =>
 .ret (.again ((p0, p1, (IntKind.i64.wrap (p2 + 1)), ()), ((p3, p4, p5, p6, p7, p8, p9, p10, p11, ()), (p12, p13, p14, p15, p16, ()), (p17, p18, p19, p20, p21, ()), p22, p23, p24, p25, p26, p27, p28, p29, p30, p31, p32, p33, p34, p35, p36, (List.set p37 (Int.toNat y1.1) (true, y2, ())), p38, p39, ()))))
 .fail)
 .fail)
 (.ret (.out ((), ((p3, p4, p5, p6, p7, p8, p9, p10, p11, ()), (p12, p13, p14, p15, p16, ()), (p17, p18, p19, p20, p21, ()), p22, p23, p24, p25, p26, p27, p28, p29, p30, p31, p32, p33, p34, p35, p36, p37, p38, p39, ()))))
abbrev f67_S12 := XE × XA
def f67_L12 : f67_S12 → Out (Round f67_S12 ((Unit) × XA) Empty)
| ((p0, p1, p2, _), (p3, p4, p5, p6, p7, _), (p8, p9, p10, p11, p12, _), p13, p14, p15, p16, p17, p18, p19, p20, p21, p22, p23, p24, p25, p26, p27, p28, p29, p30, _) =>
 .ite (decide (p2 < p1))
 (.ite (decide (0 ≤ p2))
 (.get (nth p0 (Int.toNat p2)) fun y1 =>
 .get (k153_V p10 p29 p11 p12 y1) fun y2 =>
 .ret (.again ((p0, p1, (IntKind.i64.wrap (p2 + 1)), ()), ((p3, p4, p5, p6, p7, ()), (p8, p9, y2.2.1.1, y2.2.1.2.2.1, y2.2.1.2.2.2.1, ()), p13, p14, p15, p16, p17, p18, p19, p20, p21, p22, p23, p24, p25, p26, p27, p28, y2.2.1.2.1, p30, ()))))
 .fail)
 (.ret (.out ((), ((p3, p4, p5, p6, p7, ()), (p8, p9, p10, p11, p12, ()), p13, p14, p15, p16, p17, p18, p19, p20, p21, p22, p23, p24, p25, p26, p27, p28, p29, p30, ()))))
def f67_tree (a0 : Int) (a1 : Int) (a2 : List (List InsD)) (a3 : List ProcD) (a4 : List OpenD) (a5 : List CpuD) (a6 : List CpuD) (a7 : List Int) (a8 : List Int) : Out ((XG × (Bool × Unit) × Unit) × (Unit × Unit)) :=
 .get (unixOkP a0 a1 a2 a3 a4 a5 a6 a7 a8) fun y1 =>
 .ite (!y1)
 (.ret (((0, 0, ([] : List (List InsD)), ([] : List (XB)), ([] : List Int), ([] : List (Bool)), ([] : List (XF)), ([] : List ((Bool × XE))), ([] : List (XK)), false, ([] : List Int), 0, 0, ([] : List Int), ()), (false, ()), ()), ((), ())))
 (.get k150_V fun (((_, _, _, y2aa, y2ab, y2ac, y2ad, y2ae, y2af, y2ag, y2ah, y2ai, y2aj, _), _), _) =>
 .get (k30_V a2) fun y3 =>
 .get (cloneV a8) fun y4 =>
 .get (iter1 f67_L0 FUEL ((a3, ((List.length a3 : Nat) : Int), 0, ()), ((a0, a1, a2, a3, a4, a5, a6, a7, a8, ()), (0, 0, false, 0, 0, ()), (a0, a1, y2ag, y2ai, y2aj, ()), ([] : List (List InsD)), ([] : List (XB)), ([] : List Int), ([] : List (Bool)), ([] : List (XF)), ([] : List ((Bool × XE))), ([] : List (XK)), ([] : List Int), ([] : List Int), y3.1.1.1, y2aa, y2ab, y2ac, y2ad, y2ae, y2af, y2ah, y4, ()))) fun (_, (y5aa, y5ab, y5ac, y5ad, y5ae, y5af, y5ag, y5ah, y5ai, _), (y5aj, y5ak, y5al, y5am, y5an, _), (y5ao, y5ap, y5aq, y5ar, y5as, _), y5at, y5au, y5av, y5aw, y5ax, y5ay, y5az, y5ba, y5bb, y5bc, y5bd, y5be, y5bf, y5bg, y5bh, y5bi, y5bj, y5bk, _) =>
 .get (iter1 f67_L4 FUEL ((y5ae, ((List.length y5ae : Nat) : Int), 0, ()), ((y5aa, y5ab, y5ac, y5ad, y5ae, y5af, y5ag, y5ah, y5ai, ()), (y5aj, y5ak, y5al, y5am, y5an, ()), (y5ao, y5ap, y5aq, y5ar, y5as, ()), y5at, y5au, y5av, y5aw, y5ax, y5ay, y5az, y5ba, y5bb, y5bc, y5bd, y5be, y5bf, y5bg, y5bh, y5bi, y5bj, y5bk, ()))) fun (_, (y6aa, y6ab, y6ac, y6ad, y6ae, y6af, y6ag, y6ah, y6ai, _), (y6aj, y6ak, y6al, y6am, y6an, _), (y6ao, y6ap, y6aq, y6ar, y6as, _), y6at, y6au, y6av, y6aw, y6ax, y6ay, y6az, y6ba, y6bb, y6bc, y6bd, y6be, y6bf, y6bg, y6bh, y6bi, y6bj, y6bk, _) =>
 .get (iter1 f67_L6 FUEL ((y6af, ((List.length y6af : Nat) : Int), 0, ()), ((y6aa, y6ab, y6ac, y6ad, y6ae, y6af, y6ag, y6ah, y6ai, ()), (y6aj, y6ak, y6al, y6am, y6an, ()), (y6ao, y6ap, y6aq, y6ar, y6as, ()), y6at, y6au, y6av, y6aw, y6ax, y6ay, y6az, y6ba, y6bb, y6bc, y6bd, y6be, y6bf, y6bg, y6bh, y6bi, y6bj, y6bk, ()))) fun (_, (y7aa, y7ab, y7ac, y7ad, y7ae, y7af, y7ag, y7ah, y7ai, _), (y7aj, y7ak, y7al, y7am, y7an, _), (y7ao, y7ap, y7aq, y7ar, y7as, _), y7at, y7au, y7av, y7aw, y7ax, y7ay, y7az, y7ba, y7bb, y7bc, y7bd, y7be, y7bf, y7bg, y7bh, y7bi, y7bj, y7bk, _) =>
 .get (iter1 f67_L10 FUEL ((y7ag, ((List.length y7ag : Nat) : Int), 0, ()), ((y7aa, y7ab, y7ac, y7ad, y7ae, y7af, y7ag, y7ah, y7ai, ()), (y7aj, y7ak, y7al, y7am, y7an, ()), (y7ao, y7ap, y7aq, y7ar, y7as, ()), y7at, y7au, y7av, y7aw, y7ax, y7ay, y7az, y7ba, y7bb, y7bc, y7bd, y7be, y7bf, y7bg, y7bh, y7bi, y7bj, y7bk, ()))) fun (_, (_, _, _, _, _, _, _, y8aa, _), (y8ab, y8ac, y8ad, y8ae, y8af, _), (y8ag, y8ah, y8ai, y8aj, y8ak, _), y8al, y8am, y8an, y8ao, y8ap, y8aq, y8ar, y8as, y8at, y8au, y8av, y8aw, y8ax, y8ay, y8az, y8ba, y8bb, y8bc, _) =>
 .get (iter1 f67_L12 FUEL ((y8aa, ((List.length y8aa : Nat) : Int), 0, ()), ((y8ab, y8ac, y8ad, y8ae, y8af, ()), (y8ag, y8ah, y8ai, y8aj, y8ak, ()), y8al, y8am, y8an, y8ao, y8ap, y8aq, y8ar, y8as, y8at, y8au, y8av, y8aw, y8ax, y8ay, y8az, y8ba, y8bb, y8bc, ()))) fun (_, _, (y9aa, y9ab, y9ac, y9ad, y9ae, _), _, _, _, _, _, _, _, _, _, y9af, y9ag, y9ah, y9ai, y9aj, y9ak, y9al, y9am, y9an, _) =>
 .ret (((y9aa, y9ab, y9af, y9ag, y9ah, y9ai, y9aj, y9ak, y9al, y9ac, y9am, y9ad, y9ae, y9an, ()), (true, ()), ()), ((), ())))
abbrev f67_s3 : List (Nat × VSlot) := [(64000000, .var [.i .i64, .i .i64, .ro (.sl tyN) (some 0), .ro tyP (some 1), .ro tyO (some 2), .ro tyF (some 3), .ro tyF (some 4), .ro tyI (some 5), .ro tyI (some 6)]), (64000001, .var [.i .i64, .i .i64, .srf 64000003, .srf 64000004, .srf 64000005, .srf 64000006, .srf 64000007, .srf 64000008, .srf 64000009, .b, .srf 64000010, .i .i64, .i .i64, .srf 64000011]), (64000002, .var [.i .i64, .i .i64, .srf 64000012, .srf 64000013, .srf 64000014, .srf 64000015, .srf 64000016, .srf 64000017, .srf 64000018, .b, .srf 64000019, .i .i64, .i .i64, .srf 64000020]), (64000003, .arr (.sl tyN)), (64000004, .arr tyQ), (64000005, .arr tyI), (64000006, .arr .bool), (64000007, .arr tyS), (64000008, .arr tyR), (64000009, .arr tyT), (64000010, .arr tyI), (64000011, .arr tyI), (64000012, .arr (.sl tyN)), (64000013, .arr tyQ), (64000014, .arr tyI), (64000015, .arr .bool), (64000016, .arr tyS), (64000017, .arr tyR), (64000018, .arr tyT), (64000019, .arr tyI), (64000020, .arr tyI)]
def f67_A : Nat → Option LoopAnn := fun n => annOf [(0, ⟨⟨[.dead, .vptr 64000000 0, .vptr 64000001 0, .dead, .vptr 64000002 0] ++ dd 34 ++ [.ro tyP (some 1), .i .i64, .i .i64] ++ dd 135, f67_s3⟩, ⟨[.dead, .vptr 64000000 0, .vptr 64000001 0, .dead, .vptr 64000002 0] ++ dd 172, f67_s3⟩, none, false⟩), (2, ⟨⟨[.dead, .vptr 64000000 0, .vptr 64000001 0, .dead, .vptr 64000002 0, .i .i64, .vptr 64000003 0, .vptr 64000004 0, .i .i64] ++ dd 30 ++ [.ro tyP (some 1), .i .i64, .i .i64] ++ dd 135, [(64000000, .var [.i .i64, .i .i64, .ro (.sl tyN) (some 0), .ro tyP (some 1), .ro tyO (some 2), .ro tyF (some 3), .ro tyF (some 4), .ro tyI (some 5), .ro tyI (some 6)]), (64000001, .var [.i .i64, .i .i64, .srf 64000005, .srf 64000006, .srf 64000007, .srf 64000008, .srf 64000009, .srf 64000010, .srf 64000011, .b, .srf 64000012, .i .i64, .i .i64, .srf 64000013]), (64000002, .var [.i .i64, .i .i64, .srf 64000014, .srf 64000015, .srf 64000016, .srf 64000017, .srf 64000018, .srf 64000019, .srf 64000020, .b, .srf 64000021, .i .i64, .i .i64, .srf 64000022]), (64000003, .var [.i .i64, .i .i64, .i .i64, .i .i64, .i .i64, .ro tyI none, .ro tyI none, .ro tyI none, .i .i64, .i .i64]), (64000004, .var [.b, .i .i64, .i .i64, .i .i64, .i .i64, .i .i64, .i .i64, .i .i64, .srf 64000023, .srf 64000024, .srf 64000025]), (64000005, .arr (.sl tyN)), (64000006, .arr tyQ), (64000007, .arr tyI), (64000008, .arr .bool), (64000009, .arr tyS), (64000010, .arr tyR), (64000011, .arr tyT), (64000012, .arr tyI), (64000013, .arr tyI), (64000014, .arr (.sl tyN)), (64000015, .arr tyQ), (64000016, .arr tyI), (64000017, .arr .bool), (64000018, .arr tyS), (64000019, .arr tyR), (64000020, .arr tyT), (64000021, .arr tyI), (64000022, .arr tyI), (64000023, .arr tyI), (64000024, .arr tyI), (64000025, .arr tyI)]⟩, ⟨[.dead, .vptr 64000000 0, .vptr 64000001 0, .dead, .vptr 64000002 0, .i .i64, .dead, .vptr 64000003 0] ++ dd 31 ++ [.ro tyP (some 1), .i .i64, .i .i64] ++ dd 135, [(64000000, .var [.i .i64, .i .i64, .ro (.sl tyN) (some 0), .ro tyP (some 1), .ro tyO (some 2), .ro tyF (some 3), .ro tyF (some 4), .ro tyI (some 5), .ro tyI (some 6)]), (64000001, .var [.i .i64, .i .i64, .srf 64000004, .srf 64000005, .srf 64000006, .srf 64000007, .srf 64000008, .srf 64000009, .srf 64000010, .b, .srf 64000011, .i .i64, .i .i64, .srf 64000012]), (64000002, .var [.i .i64, .i .i64, .srf 64000013, .srf 64000014, .srf 64000015, .srf 64000016, .srf 64000017, .srf 64000018, .srf 64000019, .b, .srf 64000020, .i .i64, .i .i64, .srf 64000021]), (64000003, .var [.b, .i .i64, .i .i64, .i .i64, .i .i64, .i .i64, .i .i64, .i .i64, .srf 64000022, .srf 64000023, .srf 64000024]), (64000004, .arr (.sl tyN)), (64000005, .arr tyQ), (64000006, .arr tyI), (64000007, .arr .bool), (64000008, .arr tyS), (64000009, .arr tyR), (64000010, .arr tyT), (64000011, .arr tyI), (64000012, .arr tyI), (64000013, .arr (.sl tyN)), (64000014, .arr tyQ), (64000015, .arr tyI), (64000016, .arr .bool), (64000017, .arr tyS), (64000018, .arr tyR), (64000019, .arr tyT), (64000020, .arr tyI), (64000021, .arr tyI), (64000022, .arr tyI), (64000023, .arr tyI), (64000024, .arr tyI)]⟩, none, false⟩), (4, ⟨⟨[.dead, .vptr 64000000 0, .vptr 64000001 0, .dead, .vptr 64000002 0] ++ dd 93 ++ [.ro tyO (some 2), .i .i64, .i .i64] ++ dd 76, f67_s3⟩, ⟨[.dead, .vptr 64000000 0, .vptr 64000001 0, .dead, .vptr 64000002 0] ++ dd 172, f67_s3⟩, none, false⟩), (6, ⟨⟨[.dead, .vptr 64000000 0, .vptr 64000001 0, .dead, .vptr 64000002 0] ++ dd 115 ++ [.ro tyF (some 3), .i .i64, .i .i64] ++ dd 54, f67_s3⟩, ⟨[.dead, .vptr 64000000 0, .vptr 64000001 0, .dead, .vptr 64000002 0] ++ dd 172, f67_s3⟩, none, false⟩), (8, ⟨⟨[.dead, .vptr 64000000 0, .vptr 64000001 0, .dead, .vptr 64000002 0] ++ dd 7 ++ [.vptr 64000003 0] ++ dd 107 ++ [.ro tyF (some 3), .i .i64, .i .i64] ++ dd 10 ++ [.ro tyI none, .i .i64, .i .i64] ++ dd 41, [(64000000, .var [.i .i64, .i .i64, .ro (.sl tyN) (some 0), .ro tyP (some 1), .ro tyO (some 2), .ro tyF (some 3), .ro tyF (some 4), .ro tyI (some 5), .ro tyI (some 6)]), (64000001, .var [.i .i64, .i .i64, .srf 64000004, .srf 64000005, .srf 64000006, .srf 64000007, .srf 64000008, .srf 64000009, .srf 64000010, .b, .srf 64000011, .i .i64, .i .i64, .srf 64000012]), (64000002, .var [.i .i64, .i .i64, .srf 64000013, .srf 64000014, .srf 64000015, .srf 64000016, .srf 64000017, .srf 64000018, .srf 64000019, .b, .srf 64000020, .i .i64, .i .i64, .srf 64000021]), (64000003, .var [.i .i64, .ro tyI none]), (64000004, .arr (.sl tyN)), (64000005, .arr tyQ), (64000006, .arr tyI), (64000007, .arr .bool), (64000008, .arr tyS), (64000009, .arr tyR), (64000010, .arr tyT), (64000011, .arr tyI), (64000012, .arr tyI), (64000013, .arr (.sl tyN)), (64000014, .arr tyQ), (64000015, .arr tyI), (64000016, .arr .bool), (64000017, .arr tyS), (64000018, .arr tyR), (64000019, .arr tyT), (64000020, .arr tyI), (64000021, .arr tyI)]⟩, ⟨[.dead, .vptr 64000000 0, .vptr 64000001 0, .dead, .vptr 64000002 0] ++ dd 115 ++ [.ro tyF (some 3), .i .i64, .i .i64] ++ dd 54, f67_s3⟩, none, false⟩), (10, ⟨⟨[.dead, .vptr 64000000 0, .vptr 64000001 0, .dead, .vptr 64000002 0] ++ dd 144 ++ [.ro tyF (some 4), .i .i64, .i .i64] ++ dd 25, f67_s3⟩, ⟨[.dead, .vptr 64000000 0, .vptr 64000001 0, .dead, .vptr 64000002 0] ++ dd 172, f67_s3⟩, none, false⟩), (12, ⟨⟨[.dead, .dead, .vptr 64000000 0, .dead, .vptr 64000001 0] ++ dd 161 ++ [.ro tyI (some 5), .i .i64, .i .i64] ++ dd 8, f150_s1⟩, ⟨[.dead, .dead, .vptr 64000000 0, .dead, .vptr 64000001 0] ++ dd 172, f150_s1⟩, none, false⟩)] n
def k67_V := fun a0 a1 a2 a3 a4 a5 a6 a7 a8 => (f67_tree a0 a1 a2 a3 a4 a5 a6 a7 a8).eval
def k67 : Con := { f := 67, lend := true, its := [⟨false, true, [.i .i64, .i .i64, .ro (.sl tyN), .ro tyP, .ro tyO, .ro tyF, .ro tyF, .ro tyI, .ro tyI]⟩], lay := [none], rs := [⟨false, true, [.i .i64, .i .i64, .own (.sl tyN), .own tyQ, .own tyI, .own .bool, .own tyS, .own tyR, .own tyT, .b, .own tyI, .i .i64, .i .i64, .own tyI]⟩, ⟨false, false, [.b]⟩], F := fun x => .get (k67_V x.1.1 x.1.2.1 x.1.2.2.1 x.1.2.2.2.1 x.1.2.2.2.2.1 x.1.2.2.2.2.2.1 x.1.2.2.2.2.2.2.1 x.1.2.2.2.2.2.2.2.1 x.1.2.2.2.2.2.2.2.2.1) fun y => .ret y }
theorem f67_eq (x : itemsD k67.its) : bo [k149, k150, k30, k84, k151, k152, k153] f67_A Tryz.f67 k67 [.cell 2 43, .tmp 3] x = f67_tree x.1.1 x.1.2.1 x.1.2.2.1 x.1.2.2.2.1 x.1.2.2.2.2.1 x.1.2.2.2.2.2.1 x.1.2.2.2.2.2.2.1 x.1.2.2.2.2.2.2.2.1 x.1.2.2.2.2.2.2.2.2.1 := by kernel_rfl
theorem k67_ok : k67.Ok Tryz.prog := con_fn [k149, k150, k30, k84, k151, k152, k153] ⟨k149_ok, k150_ok, k30_ok, k84_ok, k151_ok, k152_ok, k153_ok, trivial⟩ f67_eq fun _ _ _ hy => (eval_get_ret _).symm.trans hy
def f154_tree  : Out (((List (List Int) × Unit) × Unit) × (Unit)) :=
 .ret (((([([] : List Int), ([] : List Int), ([] : List Int), ([] : List Int), ([(0 : Int)] : List Int)] : List (List Int)), ()), ()), ())
def k154_V := (f154_tree ).eval
def k154 : Con := { f := 154, lend := true, its := [], lay := [], rs := [⟨false, true, [.own (.sl tyI)]⟩], F := fun x => .get (k154_V) fun y => .ret y }
theorem f154_eq (x : itemsD k154.its) : bo [] (fun _ => none) Tryz.f154 k154 [.cell 0 47] x = f154_tree  := by kernel_rfl
theorem k154_ok : k154.Ok Tryz.prog := con_fn [] trivial f154_eq fun _ _ _ hy => (eval_get_ret _).symm.trans hy
def f187_tree (a0 : Int) : Out (((Bool × Unit) × Unit) × (Unit × Unit)) :=
 .ret ((((inV a0 (0 : Int) (15 : Int)), ()), ()), ((), ()))
def k187_V := fun a0 => (f187_tree a0).eval
def k187 : Con := { f := 187, lend := true, its := [⟨false, false, [.i .i64]⟩], lay := [none], rs := [⟨false, false, [.b]⟩], F := fun x => .get (k187_V x.1.1) fun y => .ret y }
theorem f187_eq (x : itemsD k187.its) : bo [k25] (fun _ => none) Tryz.f187 k187 [.tmp 2] x = f187_tree x.1.1 := by kernel_rfl
theorem k187_ok : k187.Ok Tryz.prog := con_fn [k25] ⟨k25_ok, trivial⟩ f187_eq fun _ _ _ hy => (eval_get_ret _).symm.trans hy
def f243_tree (a0 : Int) (a1 : Int) : Out (((Int × Unit) × Unit) × XI) :=
 .ite (decide (a1 < 0))
 .fail
 (.ret ((((IntKind.i64.wrap (((BitVec.ofInt (IntKind.bits IntKind.i64) a0 ^^^ BitVec.ofInt (IntKind.bits IntKind.i64) (IntKind.i64.wrap ((1 : Int) * 2 ^ (min (Int.toNat a1) (IntKind.bits IntKind.i64))))).toNat : Int))), ()), ()), ((), (), ())))
def k243_V := fun a0 a1 => (f243_tree a0 a1).eval
def k243 : Con := { f := 243, lend := true, its := [⟨false, false, [.i .i64]⟩, ⟨false, false, [.i .i64]⟩], lay := [none, none], rs := [⟨false, false, [.i .i64]⟩], F := fun x => .get (k243_V x.1.1 x.2.1.1) fun y => .ret y }
theorem f243_eq (x : itemsD k243.its) : bo [] (fun _ => none) Tryz.f243 k243 [.tmp 4] x = f243_tree x.1.1 x.2.1.1 := by kernel_rfl
theorem k243_ok : k243.Ok Tryz.prog := con_fn [] trivial f243_eq fun _ _ _ hy => (eval_get_ret _).symm.trans hy
abbrev f168_S4 := (Int × List Int × Int × Int × Int × List (List Int) × Int × Int × List Int × Int × Int × Int × Int × Bool × Int × Int × Int × Int × Bool × Unit) × (List (Bool) × Unit)
def f168_L4 : f168_S4 → Out (Round f168_S4 ((Int × List Int × Int × Int × List (List Int) × Int × Int × List Int × Int × Int × Int × Int × Bool × Int × Int × Int × Int × Bool × Unit) × (List (Bool) × Unit)) ((Bool × Unit) × (Unit)))
| ((p0, p1, p2, p3, p4, p5, p6, p7, p8, p9, p10, p11, p12, p13, p14, p15, p16, p17, p18, _), p19, _) =>
 .ite (decide (p0 < 0))
 .fail
 (.ite (decide (p4 < (IntKind.i64.wrap (p3 + (IntKind.i64.wrap ((1 : Int) * 2 ^ (min (Int.toNat p0) (IntKind.bits IntKind.i64))))))))
 (.ite (decide (0 ≤ p4 ∧ p4 < ((List.length p19 : Nat) : Int)))
 (.get (nth p19 (Int.toNat p4)) fun y1 =>
 .ite y1
 (.ret (.ret ((false, ()), ())))
 (.ite (decide (0 ≤ p4 ∧ p4 < ((List.length p19 : Nat) : Int)))
 (.get (nth p19 (Int.toNat p4)) fun y2 =>
 .ret (.again ((p0, p1, p2, p3, (IntKind.i64.wrap (p4 + 1)), p5, p6, p7, p8, p9, p10, p11, p12, p13, p14, p15, p16, p17, p18, ()), ((List.set p19 (Int.toNat p4) true), ()))))
 .fail))
 .fail)
 (.ret (.out ((p0, p1, p2, p3, p5, p6, p7, p8, p9, p10, p11, p12, p13, p14, p15, p16, p17, p18, ()), (p19, ())))))
abbrev f168_S2 := (Int × List Int × Int × List (List Int) × Int × Int × XE) × (List (Bool) × Unit)
def f168_L2 : f168_S2 → Out (Round f168_S2 ((List (List Int) × Int × Int × Unit) × (List (Bool) × Unit)) ((Bool × Unit) × (Unit)))
| ((p0, p1, p2, p3, p4, p5, p6, p7, p8, _), p9, _) =>
 .ite (decide (p8 < p7))
 (.ite (decide (0 ≤ p8))
 (.get (nth p6 (Int.toNat p8)) fun y1 =>
 .get (k187_V y1) fun y2 =>
 .ite ((!y2.1.1.1) == false)
 (.ite ((decide (y1 ≤ p2)) == false)
 (.ite (decide (p0 < 0))
 .fail
 (.ite ((IntKind.i64.wrap ((1 : Int) * 2 ^ (min (Int.toNat p0) (IntKind.bits IntKind.i64)))) == 0)
 .fail
 (.ite (((Int.tmod y1 (IntKind.i64.wrap ((1 : Int) * 2 ^ (min (Int.toNat p0) (IntKind.bits IntKind.i64))))) != 0))
 (.ret (.ret ((false, ()), ())))
 (.get (iter f168_L4 FUEL ((p0, p1, y1, y1, y1, p3, p4, p5, p6, p7, p8, y1, p2, (decide (y1 ≤ p2)), y1, p0, (IntKind.i64.wrap ((1 : Int) * 2 ^ (min (Int.toNat p0) (IntKind.bits IntKind.i64)))), (Int.tmod y1 (IntKind.i64.wrap ((1 : Int) * 2 ^ (min (Int.toNat p0) (IntKind.bits IntKind.i64))))), (((Int.tmod y1 (IntKind.i64.wrap ((1 : Int) * 2 ^ (min (Int.toNat p0) (IntKind.bits IntKind.i64))))) != 0)), ()), (p9, ()))) fun y3 => .alt y3 (fun y4 =>
 .ite ((decide (y4.1.1 < 4)) == true)
 (.get (k243_V y4.1.2.2.2.1 y4.1.1) fun y6 =>
 .ite (hasV y4.1.2.1 y6.1.1.1)
 (.ret (.ret ((false, ()), ())))
 (.ret (.again ((y4.1.1, y4.1.2.1, y4.1.2.2.1, y4.1.2.2.2.2.1, y4.1.2.2.2.2.2.1, y4.1.2.2.2.2.2.2.1, y4.1.2.2.2.2.2.2.2.1, y4.1.2.2.2.2.2.2.2.2.1, (IntKind.i64.wrap (y4.1.2.2.2.2.2.2.2.2.2.1 + 1)), ()), (y4.2.1, ())))))
 (.ret (.again ((y4.1.1, y4.1.2.1, y4.1.2.2.1, y4.1.2.2.2.2.1, y4.1.2.2.2.2.2.1, y4.1.2.2.2.2.2.2.1, y4.1.2.2.2.2.2.2.2.1, y4.1.2.2.2.2.2.2.2.2.1, (IntKind.i64.wrap (y4.1.2.2.2.2.2.2.2.2.2.1 + 1)), ()), (y4.2.1, ()))))) (fun y5 =>
 .ret (.ret ((y5.1.1, ()), ())))))))
 (.ret (.ret ((false, ()), ()))))
 (.ret (.ret ((false, ()), ()))))
 .fail)
 (.ret (.out ((p3, p4, p5, ()), (p9, ()))))
abbrev f168_S0 := (List (List Int) × Int × Int × Unit) × (List (Bool) × Unit)
def f168_L0 : f168_S0 → Out (Round f168_S0 ((Unit) × (Unit)) ((Bool × Unit) × (Unit)))
| ((p0, p1, p2, _), p3, _) =>
 .ite (decide (p2 < p1))
 (.ite (decide (0 ≤ p2))
 (.get (nth p0 (Int.toNat p2)) fun y1 =>
 .get (iter f168_L2 FUEL ((p2, y1, -1, p0, p1, p2, y1, ((List.length y1 : Nat) : Int), 0, ()), (p3, ()))) fun y2 => .alt y2 (fun y3 =>
 .ret (.again ((y3.1.1, y3.1.2.1, (IntKind.i64.wrap (y3.1.2.2.1 + 1)), ()), (y3.2.1, ())))) (fun y4 =>
 .ret (.ret ((y4.1.1, ()), ()))))
 .fail)
 (.ret (.out ((), ())))
def f168_tree (a0 : List (List Int)) : Out (((Bool × Unit) × Unit) × (Unit × Unit)) :=
 .ite ((((List.length a0 : Nat) : Int) != 5))
 (.ret (((false, ()), ()), ((), ())))
 (.ite (decide (0 ≤ (16 : Int) ∧ (16 : Int) ≤ (16 : Int) ∧ (16 : Int) ≤ (LIM : Int)))
 (.get (iter f168_L0 FUEL ((a0, ((List.length a0 : Nat) : Int), 0, ()), ((List.replicate (Int.toNat (16 : Int)) false), ()))) fun y1 => .alt y1 (fun y2 =>
 .ret (((true, ()), ()), ((), ()))) (fun y3 =>
 .ret (((y3.1.1, ()), ()), ((), ()))))
 .fail)
def f168_A : Nat → Option LoopAnn := fun n => annOf [(0, ⟨⟨[.dead, .dead, .dead, .srf 64000000] ++ dd 12 ++ [.ro (.sl tyI) (some 0), .i .i64, .i .i64] ++ dd 53, [(64000000, .arr .bool)]⟩, ⟨dd 72, []⟩, some ⟨[.dead, .dead, .b] ++ dd 69, []⟩, false⟩), (2, ⟨⟨[.dead, .dead, .dead, .srf 64000000, .i .i64, .ro tyI none, .i .i64] ++ dd 9 ++ [.ro (.sl tyI) (some 0), .i .i64, .i .i64] ++ dd 4 ++ [.ro tyI none, .i .i64, .i .i64] ++ dd 46, [(64000000, .arr .bool)]⟩, ⟨[.dead, .dead, .dead, .srf 64000000] ++ dd 12 ++ [.ro (.sl tyI) (some 0), .i .i64, .i .i64] ++ dd 53, [(64000000, .arr .bool)]⟩, some ⟨[.dead, .dead, .b] ++ dd 69, []⟩, false⟩), (4, ⟨⟨[.dead, .dead, .dead, .srf 64000000, .i .i64, .ro tyI none, .i .i64, .dead, .i .i64, .i .i64] ++ dd 6 ++ [.ro (.sl tyI) (some 0), .i .i64, .i .i64] ++ dd 4 ++ [.ro tyI none, .i .i64, .i .i64] ++ dd 7 ++ [.i .i64, .i .i64, .b, .dead, .dead, .i .i64, .i .i64, .i .i64, .i .i64, .b] ++ dd 29, [(64000000, .arr .bool)]⟩, ⟨[.dead, .dead, .dead, .srf 64000000, .i .i64, .ro tyI none, .i .i64, .dead, .i .i64] ++ dd 7 ++ [.ro (.sl tyI) (some 0), .i .i64, .i .i64] ++ dd 4 ++ [.ro tyI none, .i .i64, .i .i64] ++ dd 7 ++ [.i .i64, .i .i64, .b, .dead, .dead, .i .i64, .i .i64, .i .i64, .i .i64, .b] ++ dd 29, [(64000000, .arr .bool)]⟩, some ⟨[.dead, .dead, .b] ++ dd 69, []⟩, false⟩)] n
def k168_V := fun a0 => (f168_tree a0).eval
def k168 : Con := { f := 168, lend := true, its := [⟨false, true, [.ro (.sl tyI)]⟩], lay := [none], rs := [⟨false, false, [.b]⟩], F := fun x => .get (k168_V x.1.1) fun y => .ret y }
theorem f168_eq (x : itemsD k168.its) : bo [k187, k243, k242] f168_A Tryz.f168 k168 [.tmp 2] x = f168_tree x.1.1 := by kernel_rfl
theorem k168_ok : k168.Ok Tryz.prog := con_fn [k187, k243, k242] ⟨k187_ok, k243_ok, k242_ok, trivial⟩ f168_eq fun _ _ _ hy => (eval_get_ret _).symm.trans hy
abbrev f281_S0 := (List (List Int) × Int × Int × Unit) × XQ
def f281_L0 : f281_S0 → Out (Round f281_S0 ((Unit) × XQ) Empty)
| ((p0, p1, p2, _), _, _, p3, p4, _) =>
 .ite (decide (p2 < p1))
 (.ite (decide (0 ≤ p2))
 (.get (nth p0 (Int.toNat p2)) fun y1 =>
 .get (cloneV y1) fun y2 =>
 .ite (decide (List.length p4 + List.length ([y2] : List (List Int)) ≤ LIM))
 (.ret (.again ((p0, p1, (IntKind.i64.wrap (p2 + 1)), ()), ((), (), p3, (p4 ++ ([y2] : List (List Int))), ()))))
 .fail)
 .fail)
 (.ret (.out ((), ((), (), p3, p4, ()))))
def f281_tree (a0 : List (List Int)) : Out (((List (List Int) × Unit) × Unit) × (Unit × Unit)) :=
 .get (iter1 f281_L0 FUEL ((a0, ((List.length a0 : Nat) : Int), 0, ()), ((), (), ([] : List (List Int)), ([] : List (List Int)), ()))) fun y1 =>
 .ret (((y1.2.2.2.2.1, ()), ()), ((), ()))
abbrev f281_s4 : List (Nat × VSlot) := [(64000000, .var [.srf 64000002]), (64000001, .var [.srf 64000003]), (64000002, .arr (.sl tyI)), (64000003, .arr (.sl tyI))]
def f281_A : Nat → Option LoopAnn := fun n => annOf [(0, ⟨⟨[.dead, .dead, .vptr 64000000 0, .vptr 64000001 0] ++ dd 4 ++ [.ro (.sl tyI) (some 0), .i .i64, .i .i64] ++ dd 12, f281_s4⟩, ⟨[.dead, .dead, .vptr 64000000 0, .vptr 64000001 0] ++ dd 19, f281_s4⟩, none, false⟩)] n
def k281_V := fun a0 => (f281_tree a0).eval
def k281 : Con := { f := 281, lend := true, its := [⟨false, true, [.ro (.sl tyI)]⟩], lay := [none], rs := [⟨false, true, [.own (.sl tyI)]⟩], F := fun x => .get (k281_V x.1.1) fun y => .ret y }
theorem f281_eq (x : itemsD k281.its) : bo [k84] f281_A Tryz.f281 k281 [.cell 2 47] x = f281_tree x.1.1 := by kernel_rfl
theorem k281_ok : k281.Ok Tryz.prog := con_fn [k84] ⟨k84_ok, trivial⟩ f281_eq fun _ _ _ hy => (eval_get_ret _).symm.trans hy
def f156_tree (a0 : List Int) (a1 : Int) (a2 : List Int) : Out (((List Int × Unit) × Unit) × (Unit × XI)) :=
 .ite (decide (0 ≤ a1 ∧ a1 ≤ ((List.length a0 : Nat) : Int) ∧ ((List.length a0 : Nat) : Int) ≤ ((List.length a0 : Nat) : Int)))
 (.ite ((((List.length a2 : Nat) : Int) == 0))
 (.ret (((a0, ()), ()), ((), (), (), ())))
 (.ite ((a1 == ((List.length a0 : Nat) : Int)))
 (.ite (decide (List.length a0 + List.length a2 ≤ LIM))
 (.ret ((((a0 ++ a2), ()), ()), ((), (), (), ())))
 .fail)
 .fail))
 .fail
def k156_V := fun a0 a1 a2 => (f156_tree a0 a1 a2).eval
def k156 : Con := { f := 156, lend := true, its := [⟨false, false, [.own tyI]⟩, ⟨false, false, [.i .i64]⟩, ⟨false, false, [.ro tyI]⟩], lay := [none, none, none], rs := [⟨false, false, [.own tyI]⟩], F := fun x => .get (k156_V x.1.1 x.2.1.1 x.2.2.1.1) fun y => .ret y }
theorem f156_eq (x : itemsD k156.its) : bo [] (fun _ => none) Tryz.f156 k156 [.tmp 6] x = f156_tree x.1.1 x.2.1.1 x.2.2.1.1 := by kernel_rfl
theorem k156_ok : k156.Ok Tryz.prog := con_fn [] trivial f156_eq fun _ _ _ hy => (eval_get_ret _).symm.trans hy
def f333_tree (a0 : Int) : Out (((Bool × Unit) × Unit) × (Unit × Unit)) :=
 .ret (((((a0 != a0)), ()), ()), ((), ()))
def k333_V := fun a0 => (f333_tree a0).eval
def k333 : Con := { f := 333, lend := true, its := [⟨false, false, [.i .i64]⟩], lay := [none], rs := [⟨false, false, [.b]⟩], F := fun x => .get (k333_V x.1.1) fun y => .ret y }
theorem f333_eq (x : itemsD k333.its) : bo [] (fun _ => none) Tryz.f333 k333 [.tmp 2] x = f333_tree x.1.1 := by kernel_rfl
theorem k333_ok : k333.Ok Tryz.prog := con_fn [] trivial f333_eq fun _ _ _ hy => (eval_get_ret _).symm.trans hy
def f327_tree (a0 : Int) : Out (((Bool × Unit) × Unit) × (Unit × Unit)) :=
 .ret (((((a0 != a0)), ()), ()), ((), ()))
def k327_V := fun a0 => (f327_tree a0).eval
def k327 : Con := { f := 327, lend := true, its := [⟨false, false, [.i .i64]⟩], lay := [none], rs := [⟨false, false, [.b]⟩], F := fun x => .get (k327_V x.1.1) fun y => .ret y }
theorem f327_eq (x : itemsD k327.its) : bo [] (fun _ => none) Tryz.f327 k327 [.tmp 2] x = f327_tree x.1.1 := by kernel_rfl
theorem k327_ok : k327.Ok Tryz.prog := con_fn [] trivial f327_eq fun _ _ _ hy => (eval_get_ret _).symm.trans hy
def f322_tree (a0 : Int) (a1 : Int) : Out (((Bool × Unit) × Unit) × XI) :=
 .get (k333_V a0) fun y1 =>
 .ite (y1.1.1.1 == true)
 (.get (k333_V a1) fun y2 =>
 .ite ((!y2.1.1.1) == false)
 (.ret ((((decide (a0 < a1)), ()), ()), ((), (), ())))
 (.ret (((true, ()), ()), ((), (), ()))))
 (.ret ((((decide (a0 < a1)), ()), ()), ((), (), ())))
def k322_V := fun a0 a1 => (f322_tree a0 a1).eval
def k322 : Con := { f := 322, lend := true, its := [⟨false, false, [.i .i64]⟩, ⟨false, false, [.i .i64]⟩], lay := [none, none], rs := [⟨false, false, [.b]⟩], F := fun x => .get (k322_V x.1.1 x.2.1.1) fun y => .ret y }
theorem f322_eq (x : itemsD k322.its) : bo [k333] (fun _ => none) Tryz.f322 k322 [.tmp 4] x = f322_tree x.1.1 x.2.1.1 := by kernel_rfl
theorem k322_ok : k322.Ok Tryz.prog := con_fn [k333] ⟨k333_ok, trivial⟩ f322_eq fun _ _ _ hy => (eval_get_ret _).symm.trans hy
abbrev f307_S0 := (List Int × Int × Int × Int × Int × Unit) × (Unit)
def f307_L0 : f307_S0 → Out (Round f307_S0 ((List Int × Int × Int × Int × Unit) × (Unit)) Empty)
| ((p0, p1, p2, p3, p4, _), _) =>
 .ite (decide (p3 < p4))
 (.ite (decide ((1 : Int) < 0))
 .fail
 (.ite (decide (0 ≤ (IntKind.i64.wrap (Int.fdiv (IntKind.u64.wrap (IntKind.i64.wrap (p3 + p4))) (2 ^ (min (Int.toNat (1 : Int)) (IntKind.bits IntKind.u64)))))))
 (.get (nth p0 (Int.toNat (IntKind.i64.wrap (Int.fdiv (IntKind.u64.wrap (IntKind.i64.wrap (p3 + p4))) (2 ^ (min (Int.toNat (1 : Int)) (IntKind.bits IntKind.u64))))))) fun y1 =>
 .get (k322_V y1 p1) fun y2 =>
 .ite y2.1.1.1
 (.ret (.again ((p0, p1, p2, (IntKind.i64.wrap ((IntKind.i64.wrap (Int.fdiv (IntKind.u64.wrap (IntKind.i64.wrap (p3 + p4))) (2 ^ (min (Int.toNat (1 : Int)) (IntKind.bits IntKind.u64))))) + 1)), p4, ()), ())))
 (.ret (.again ((p0, p1, p2, p3, (IntKind.i64.wrap (Int.fdiv (IntKind.u64.wrap (IntKind.i64.wrap (p3 + p4))) (2 ^ (min (Int.toNat (1 : Int)) (IntKind.bits IntKind.u64))))), ()), ()))))
 .fail))
 (.ret (.out ((p0, p1, p2, p3, ()), ())))
def f307_tree (a0 : List Int) (a1 : Int) : Out (((Int × Unit) × (Bool × Unit) × Unit) × XI) :=
 .get (iter1 f307_L0 FUEL ((a0, a1, ((List.length a0 : Nat) : Int), 0, ((List.length a0 : Nat) : Int), ()), ())) fun ((y1aa, y1ab, y1ac, y1ad, _), _) =>
 .ite ((decide (y1ad < y1ac)) == true)
 (.ite (decide (0 ≤ y1ad))
 (.get (nth y1aa (Int.toNat y1ad)) fun y2 =>
 .ite (((y2 == y1ab)) == false)
 (.ite (decide (0 ≤ y1ad))
 (.get (nth y1aa (Int.toNat y1ad)) fun y3 =>
 .get (k327_V y3) fun y4 =>
 .ite (y4.1.1.1 == true)
 (.get (k327_V y1ab) fun y5 =>
 .ret (((y1ad, ()), (y5.1.1.1, ()), ()), ((), (), ())))
 (.ret (((y1ad, ()), (false, ()), ()), ((), (), ()))))
 .fail)
 (.ret (((y1ad, ()), (true, ()), ()), ((), (), ()))))
 .fail)
 (.ret (((y1ad, ()), (false, ()), ()), ((), (), ())))
def f307_A : Nat → Option LoopAnn := fun n => annOf [(0, ⟨⟨[.ro tyI (some 0), .i .i64] ++ dd 4 ++ [.i .i64, .i .i64, .i .i64] ++ dd 45, []⟩, ⟨[.ro tyI (some 0), .i .i64] ++ dd 4 ++ [.i .i64, .i .i64] ++ dd 46, []⟩, none, false⟩)] n
def k307_V := fun a0 a1 => (f307_tree a0 a1).eval
def k307 : Con := { f := 307, lend := true, its := [⟨false, false, [.ro tyI]⟩, ⟨false, false, [.i .i64]⟩], lay := [none, none], rs := [⟨false, false, [.i .i64]⟩, ⟨false, false, [.b]⟩], F := fun x => .get (k307_V x.1.1 x.2.1.1) fun y => .ret y }
theorem f307_eq (x : itemsD k307.its) : bo [k322, k327] f307_A Tryz.f307 k307 [.tmp 4, .tmp 5] x = f307_tree x.1.1 x.2.1.1 := by kernel_rfl
theorem k307_ok : k307.Ok Tryz.prog := con_fn [k322, k327] ⟨k322_ok, k327_ok, trivial⟩ f307_eq fun _ _ _ hy => (eval_get_ret _).symm.trans hy
def f284_tree (a0 : List (List Int)) (a1 : Int) (a2 : Int) : Out ((Unit) × ((List (List Int) × Unit) × XI)) :=
 .ite (decide (0 ≤ a1 ∧ a1 < ((List.length a0 : Nat) : Int)))
 (.get (nth a0 (Int.toNat a1)) fun y1 =>
 .get (k307_V y1 a2) fun y2 =>
 .ite (decide (0 ≤ a1 ∧ a1 < ((List.length a0 : Nat) : Int)))
 (.get (nth (List.set a0 (Int.toNat a1) y1) (Int.toNat a1)) fun y3 =>
 .get (k156_V y3 y2.1.1.1 ([a2] : List Int)) fun y4 =>
 .ite (decide (0 ≤ a1 ∧ a1 < ((List.length (List.set a0 (Int.toNat a1) y1) : Nat) : Int)))
 (.ite ((Int.toNat a1) == (Int.toNat a1))
 (.get (nth (List.set a0 (Int.toNat a1) y1) (Int.toNat a1)) fun y5 =>
 .ret ((), (((List.set (List.set a0 (Int.toNat a1) y1) (Int.toNat a1) y4.1.1.1), ()), (), (), ())))
 .fail)
 .fail)
 .fail)
 .fail
def k284_V := fun a0 a1 a2 => (f284_tree a0 a1 a2).eval
def k284 : Con := { f := 284, lend := true, its := [⟨true, false, [.own (.sl tyI)]⟩, ⟨false, false, [.i .i64]⟩, ⟨false, false, [.i .i64]⟩], lay := [none, none, none], rs := [], F := fun x => .get (k284_V x.1.1 x.2.1.1 x.2.2.1.1) fun y => .ret y }
theorem f284_eq (x : itemsD k284.its) : bo [k307, k156] (fun _ => none) Tryz.f284 k284 [] x = f284_tree x.1.1 x.2.1.1 x.2.2.1.1 := by kernel_rfl
theorem k284_ok : k284.Ok Tryz.prog := con_fn [k307, k156] ⟨k307_ok, k156_ok, trivial⟩ f284_eq fun _ _ _ hy => (eval_get_ret _).symm.trans hy
def f282_tree (a0 : List Int) : Out (((Bool × Unit) × Unit) × (Unit × Unit)) :=
 .ret ((((decide (((List.length a0 : Nat) : Int) > 0)), ()), ()), ((), ()))
def k282_V := fun a0 => (f282_tree a0).eval
def k282 : Con := { f := 282, lend := true, its := [⟨false, false, [.ro tyI]⟩], lay := [none], rs := [⟨false, false, [.b]⟩], F := fun x => .get (k282_V x.1.1) fun y => .ret y }
theorem f282_eq (x : itemsD k282.its) : bo [] (fun _ => none) Tryz.f282 k282 [.tmp 2] x = f282_tree x.1.1 := by kernel_rfl
theorem k282_ok : k282.Ok Tryz.prog := con_fn [] trivial f282_eq fun _ _ _ hy => (eval_get_ret _).symm.trans hy
abbrev f252w_S0 := (List (List Int) × Int × Int × Unit) × (Unit)
def f252w_L0 : f252w_S0 → Out (Round f252w_S0 ((Unit) × (Unit)) ((Int × Unit) × (Unit)))
| ((p0, p1, p2, _), _) =>
 .ite (decide (p2 < p1))
 (.ite (decide (0 ≤ p2))
 (.get (nth p0 (Int.toNat p2)) fun y1 =>
 .get (k282_V y1) fun y2 =>
 .ite y2.1.1.1
 (.ret (.ret ((p2, ()), ())))
 (.ret (.again ((p0, p1, (IntKind.i64.wrap (p2 + 1)), ()), ()))))
 .fail)
 (.ret (.out ((), ())))
def f252w_tree (a0 : List (List Int)) : Out (((Int × Unit) × Unit) × (Unit × Unit)) :=
 .get (iter f252w_L0 FUEL ((a0, ((List.length a0 : Nat) : Int), 0, ()), ())) fun y1 => .alt y1 (fun y2 =>
 .ret (((-1, ()), ()), ((), ()))) (fun y3 =>
 .ret (((y3.1.1, ()), ()), ((), ())))
def f252w_A : Nat → Option LoopAnn := fun n => annOf [(0, ⟨⟨[.ro (.sl tyI) (some 0), .fn 282 []] ++ dd 5 ++ [.i .i64, .i .i64] ++ dd 10, []⟩, ⟨dd 19, []⟩, some ⟨dd 4 ++ [.i .i64] ++ dd 14, []⟩, false⟩)] n
def k252w_V := fun a0 => (f252w_tree a0).eval
def k252w : Con := { f := 252, lend := true, its := [⟨false, false, [.ro (.sl tyI)]⟩], lay := [none, some (282, 0)], rs := [⟨false, false, [.i .i64]⟩], F := fun x => .get (k252w_V x.1.1) fun y => .ret y }
theorem f252w_eq (x : itemsD k252w.its) : bo [k282] f252w_A Tryz.f252 k252w [.tmp 4] x = f252w_tree x.1.1 := by kernel_rfl
theorem k252w_ok : k252w.Ok Tryz.prog := con_fn [k282] ⟨k282_ok, trivial⟩ f252w_eq fun _ _ _ hy => (eval_get_ret _).symm.trans hy
abbrev f233_S0 := (Int × Int × Unit) × XQ
def f233_L0 : f233_S0 → Out (Round f233_S0 ((Int × Unit) × XQ) Empty)
| ((p0, p1, _), _, _, p2, p3, _) =>
 .ite (decide (p0 > 0))
 (.ite (decide ((IntKind.i64.wrap (p0 - (1 : Int))) < 0))
 .fail
 (.get (k284_V p3 (IntKind.i64.wrap (p0 - (1 : Int))) (IntKind.i64.wrap (p1 + (IntKind.i64.wrap ((1 : Int) * 2 ^ (min (Int.toNat (IntKind.i64.wrap (p0 - (1 : Int)))) (IntKind.bits IntKind.i64))))))) fun y1 =>
 .ret (.again (((IntKind.i64.wrap (p0 - (1 : Int))), p1, ()), ((), (), p2, y1.2.1.1, ())))))
 (.ret (.out ((p1, ()), ((), (), p2, p3, ()))))
def f233_tree (a0 : List (List Int)) : Out (((List (List Int) × Unit) × (Int × Unit) × Unit) × (Unit × Unit)) :=
 .get (k168_V a0) fun y1 =>
 .ite (!y1.1.1.1)
 (.ret (((([] : List (List Int)), ()), (-1, ()), ()), ((), ())))
 (.get (k281_V a0) fun y2 =>
 .get (k252w_V a0) fun (((y3aa, _), _), _) =>
 .ite (decide (y3aa < 0))
 (.ret (((y2.1.1.1, ()), (-1, ()), ()), ((), ())))
 (.ite (decide (0 ≤ y3aa ∧ y3aa < ((List.length y2.1.1.1 : Nat) : Int)))
 (.get (nth y2.1.1.1 (Int.toNat y3aa)) fun y4 =>
 .ite (decide (0 ≤ (0 : Int) ∧ (0 : Int) < ((List.length y4 : Nat) : Int)))
 (.get (nth y4 (Int.toNat (0 : Int))) fun y5 =>
 .ite (decide (0 ≤ y3aa ∧ y3aa < ((List.length y2.1.1.1 : Nat) : Int)))
 (.get (nth (List.set y2.1.1.1 (Int.toNat y3aa) y4) (Int.toNat y3aa)) fun y6 =>
 .get (deleteP y6 (0 : Int) (1 : Int)) fun y7 =>
 .ite (decide (0 ≤ y3aa ∧ y3aa < ((List.length (List.set y2.1.1.1 (Int.toNat y3aa) y4) : Nat) : Int)))
 (.ite ((Int.toNat y3aa) == (Int.toNat y3aa))
 (.get (nth (List.set y2.1.1.1 (Int.toNat y3aa) y4) (Int.toNat y3aa)) fun y8 =>
 .get (iter1 f233_L0 FUEL ((y3aa, y5, ()), ((), (), ([] : List (List Int)), (List.set (List.set y2.1.1.1 (Int.toNat y3aa) y4) (Int.toNat y3aa) y7), ()))) fun y9 =>
 .ret (((y9.2.2.2.2.1, ()), (y9.1.1, ()), ()), ((), ())))
 .fail)
 .fail)
 .fail)
 .fail)
 .fail))
def f233_A : Nat → Option LoopAnn := fun n => annOf [(0, ⟨⟨[.dead, .dead, .vptr 64000000 0, .dead, .vptr 64000001 0, .i .i64, .i .i64] ++ dd 41, f281_s4⟩, ⟨[.dead, .dead, .vptr 64000000 0, .dead, .vptr 64000001 0, .dead, .i .i64] ++ dd 41, f281_s4⟩, none, false⟩)] n
def k233_V := fun a0 => (f233_tree a0).eval
def k233 : Con := { f := 233, lend := true, its := [⟨false, true, [.ro (.sl tyI)]⟩], lay := [none], rs := [⟨false, true, [.own (.sl tyI)]⟩, ⟨false, false, [.i .i64]⟩], F := fun x => .get (k233_V x.1.1) fun y => .ret y }
theorem f233_eq (x : itemsD k233.its) : bo [k168, k281, k252w, k283, k284] f233_A Tryz.f233 k233 [.cell 2 47, .tmp 3] x = f233_tree x.1.1 := by kernel_rfl
theorem k233_ok : k233.Ok Tryz.prog := con_fn [k168, k281, k252w, k283, k284] ⟨k168_ok, k281_ok, k252w_ok, k283_ok, k284_ok, trivial⟩ f233_eq fun _ _ _ hy => (eval_get_ret _).symm.trans hy
def f155_tree (a0 : Int) (a1 : Int) (a2 : List (List InsD)) (a3 : List ProcD) (a4 : List Int) (a5 : List (List Int)) (a6 : List OpenD) (a7 : List XH) (a8 : List CpuD) (a9 : List Int) (a10 : List Int) (a11 : List Int) : Out (((Int × Unit) × Unit) × ((Int × Int × XJ) × Unit × Unit)) :=
 .get (k233_V a5) fun (((y1aa, _), (y1ab, _), _), _) =>
 .ite (decide (y1ab ≥ (0 : Int)))
 (.ite (decide (0 ≤ (frameAt y1ab).1 ∧ (frameAt y1ab).1 ≤ (frameAt y1ab).2 ∧ (frameAt y1ab).2 ≤ ((List.length a4 : Nat) : Int)))
 (.ret (((y1ab, ()), ()), ((a0, a1, a2, a3, (List.take (0 + Int.toNat (frameAt y1ab).1) a4 ++ List.take (min ((Int.toNat (frameAt y1ab).2 - Int.toNat (frameAt y1ab).1)) (List.length a11)) a11 ++ List.drop ((0 + Int.toNat (frameAt y1ab).1) + (min ((Int.toNat (frameAt y1ab).2 - Int.toNat (frameAt y1ab).1)) (List.length a11))) a4), y1aa, a6, a7, a8, a9, a10, ()), (), ())))
 .fail)
 (.ret (((y1ab, ()), ()), ((a0, a1, a2, a3, a4, a5, a6, a7, a8, a9, a10, ()), (), ())))
def k155_V := fun a0 a1 a2 a3 a4 a5 a6 a7 a8 a9 a10 a11 => (f155_tree a0 a1 a2 a3 a4 a5 a6 a7 a8 a9 a10 a11).eval
def k155 : Con := { f := 155, lend := true, its := [⟨true, false, [.i .i64, .i .i64, .own (.sl tyN), .own tyP, .own tyI, .own (.sl tyI), .own tyO, .own tyU, .own tyF, .own tyI, .own tyI]⟩, ⟨false, false, [.ro tyI]⟩], lay := [none, none], rs := [⟨false, false, [.i .i64]⟩], F := fun x => .get (k155_V x.1.1 x.1.2.1 x.1.2.2.1 x.1.2.2.2.1 x.1.2.2.2.2.1 x.1.2.2.2.2.2.1 x.1.2.2.2.2.2.2.1 x.1.2.2.2.2.2.2.2.1 x.1.2.2.2.2.2.2.2.2.1 x.1.2.2.2.2.2.2.2.2.2.1 x.1.2.2.2.2.2.2.2.2.2.2.1 x.2.1.1) fun y => .ret y }
theorem f155_eq (x : itemsD k155.its) : bo [k233, k184] (fun _ => none) Tryz.f155 k155 [.tmp 4] x = f155_tree x.1.1 x.1.2.1 x.1.2.2.1 x.1.2.2.2.1 x.1.2.2.2.2.1 x.1.2.2.2.2.2.1 x.1.2.2.2.2.2.2.1 x.1.2.2.2.2.2.2.2.1 x.1.2.2.2.2.2.2.2.2.1 x.1.2.2.2.2.2.2.2.2.2.1 x.1.2.2.2.2.2.2.2.2.2.2.1 x.2.1.1 := by kernel_rfl
theorem k155_ok : k155.Ok Tryz.prog := con_fn [k233, k184] ⟨k233_ok, k184_ok, trivial⟩ f155_eq fun _ _ _ hy => (eval_get_ret _).symm.trans hy
def f157_tree (a0 : List ProcD) (a1 : Int) (a2 : List ProcD) : Out (((List ProcD × Unit) × Unit) × (Unit × XI)) :=
 .ite (decide (0 ≤ a1 ∧ a1 ≤ ((List.length a0 : Nat) : Int) ∧ ((List.length a0 : Nat) : Int) ≤ ((List.length a0 : Nat) : Int)))
 (.ite ((((List.length a2 : Nat) : Int) == 0))
 (.ret (((a0, ()), ()), ((), (), (), ())))
 (.ite ((a1 == ((List.length a0 : Nat) : Int)))
 (.ite (decide (List.length a0 + List.length a2 ≤ LIM))
 (.ret ((((a0 ++ a2), ()), ()), ((), (), (), ())))
 .fail)
 .fail))
 .fail
def k157_V := fun a0 a1 a2 => (f157_tree a0 a1 a2).eval
def k157 : Con := { f := 157, lend := true, its := [⟨false, false, [.own tyP]⟩, ⟨false, false, [.i .i64]⟩, ⟨false, false, [.own tyP]⟩], lay := [none, none, none], rs := [⟨false, false, [.own tyP]⟩], F := fun x => .get (k157_V x.1.1 x.2.1.1 x.2.2.1.1) fun y => .ret y }
theorem f157_eq (x : itemsD k157.its) : bo [] (fun _ => none) Tryz.f157 k157 [.tmp 6] x = f157_tree x.1.1 x.2.1.1 x.2.2.1.1 := by kernel_rfl
theorem k157_ok : k157.Ok Tryz.prog := con_fn [] trivial f157_eq fun _ _ _ hy => (eval_get_ret _).symm.trans hy
def f158_tree (a0 : List XH) (a1 : Int) (a2 : List XH) : Out (((List XH × Unit) × Unit) × (Unit × XI)) :=
 .ite (decide (0 ≤ a1 ∧ a1 ≤ ((List.length a0 : Nat) : Int) ∧ ((List.length a0 : Nat) : Int) ≤ ((List.length a0 : Nat) : Int)))
 (.ite ((((List.length a2 : Nat) : Int) == 0))
 (.ret (((a0, ()), ()), ((), (), (), ())))
 (.ite ((a1 == ((List.length a0 : Nat) : Int)))
 (.ite (decide (List.length a0 + List.length a2 ≤ LIM))
 (.ret ((((a0 ++ a2), ()), ()), ((), (), (), ())))
 .fail)
 .fail))
 .fail
def k158_V := fun a0 a1 a2 => (f158_tree a0 a1 a2).eval
def k158 : Con := { f := 158, lend := true, its := [⟨false, false, [.own tyU]⟩, ⟨false, false, [.i .i64]⟩, ⟨false, false, [.own tyU]⟩], lay := [none, none, none], rs := [⟨false, false, [.own tyU]⟩], F := fun x => .get (k158_V x.1.1 x.2.1.1 x.2.2.1.1) fun y => .ret y }
theorem f158_eq (x : itemsD k158.its) : bo [] (fun _ => none) Tryz.f158 k158 [.tmp 6] x = f158_tree x.1.1 x.2.1.1 x.2.2.1.1 := by kernel_rfl
theorem k158_ok : k158.Ok Tryz.prog := con_fn [] trivial f158_eq fun _ _ _ hy => (eval_get_ret _).symm.trans hy
abbrev f160_S0 := (Int × Int × Unit) × (List OpenD × Unit)
def f160_L0 : f160_S0 → Out (Round f160_S0 ((Unit) × (List OpenD × Unit)) Empty)
| ((p0, p1, _), p2, _) =>
 .ite (decide (p0 < p1))
 (.ite (decide (0 ≤ p1 ∧ p1 < ((List.length p2 : Nat) : Int)))
 (.get (nth p2 (Int.toNat p1)) fun (y1aa, y1ab, y1ac, y1ad, y1ae, _) =>
 .ite (decide (0 ≤ p0 ∧ p0 < ((List.length p2 : Nat) : Int)))
 (.get (nth p2 (Int.toNat p0)) fun y2 =>
 .ite (decide (0 ≤ p0 ∧ p0 < ((List.length p2 : Nat) : Int)))
 (.get (nth p2 (Int.toNat p0)) fun y3 =>
 .ite (decide (0 ≤ p1 ∧ p1 < ((List.length (List.set p2 (Int.toNat p0) (y1aa, y1ab, y1ac, y1ad, y1ae, ())) : Nat) : Int)))
 (.get (nth (List.set p2 (Int.toNat p0) (y1aa, y1ab, y1ac, y1ad, y1ae, ())) (Int.toNat p1)) fun y4 =>
 .ret (.again (((IntKind.i64.wrap (p0 + 1)), (IntKind.i64.wrap (p1 - (1 : Int))), ()), ((List.set (List.set p2 (Int.toNat p0) (y1aa, y1ab, y1ac, y1ad, y1ae, ())) (Int.toNat p1) (y2.1, y2.2.1, y2.2.2.1, y2.2.2.2.1, y2.2.2.2.2.1, ())), ()))))
 .fail)
 .fail)
 .fail)
 .fail)
 (.ret (.out ((), (p2, ()))))
def f160_tree (a0 : List OpenD) : Out ((Unit) × ((List OpenD × Unit) × Unit)) :=
 .get (iter1 f160_L0 FUEL ((0, (IntKind.i64.wrap (((List.length a0 : Nat) : Int) - (1 : Int))), ()), (a0, ()))) fun y1 =>
 .ret ((), ((y1.2.1, ()), ()))
def f160_A : Nat → Option LoopAnn := fun n => annOf [(0, ⟨⟨[.srf 0, .dead, .i .i64, .i .i64] ++ dd 24, [(0, .arr tyO)]⟩, ⟨[.srf 0] ++ dd 27, [(0, .arr tyO)]⟩, none, false⟩)] n
def k160_V := fun a0 => (f160_tree a0).eval
def k160 : Con := { f := 160, lend := true, its := [⟨false, false, [.mut tyO]⟩], lay := [none], rs := [], F := fun x => .get (k160_V x.1.1) fun y => .ret y }
theorem f160_eq (x : itemsD k160.its) : bo [] f160_A Tryz.f160 k160 [] x = f160_tree x.1.1 := by kernel_rfl
theorem k160_ok : k160.Ok Tryz.prog := con_fn [] trivial f160_eq fun _ _ _ hy => (eval_get_ret _).symm.trans hy
abbrev f161_S0 := (Int × Int × Unit) × (List CpuD × Unit)
def f161_L0 : f161_S0 → Out (Round f161_S0 ((Unit) × (List CpuD × Unit)) Empty)
| ((p0, p1, _), p2, _) =>
 .ite (decide (p0 < p1))
 (.ite (decide (0 ≤ p1 ∧ p1 < ((List.length p2 : Nat) : Int)))
 (.get (nth p2 (Int.toNat p1)) fun y1 =>
 .ite (decide (0 ≤ p0 ∧ p0 < ((List.length p2 : Nat) : Int)))
 (.get (nth p2 (Int.toNat p0)) fun y2 =>
 .ite (decide (0 ≤ p0 ∧ p0 < ((List.length p2 : Nat) : Int)))
 .fail
 .fail)
 .fail)
 .fail)
 (.ret (.out ((), (p2, ()))))
def f161_tree (a0 : List CpuD) : Out ((Unit) × ((List CpuD × Unit) × Unit)) :=
 .get (iter1 f161_L0 FUEL ((0, (IntKind.i64.wrap (((List.length a0 : Nat) : Int) - (1 : Int))), ()), (a0, ()))) fun y1 =>
 .ret ((), ((y1.2.1, ()), ()))
def f161_A : Nat → Option LoopAnn := fun n => annOf [(0, ⟨⟨[.srf 0, .dead, .i .i64, .i .i64] ++ dd 24, [(0, .arr tyF)]⟩, ⟨[.srf 0] ++ dd 27, [(0, .arr tyF)]⟩, none, false⟩)] n
def k161_V := fun a0 => (f161_tree a0).eval
def k161 : Con := { f := 161, lend := true, its := [⟨false, false, [.mut tyF]⟩], lay := [none], rs := [], F := fun x => .get (k161_V x.1.1) fun y => .ret y }
theorem f161_eq (x : itemsD k161.its) : bo [] f161_A Tryz.f161 k161 [] x = f161_tree x.1.1 := by kernel_rfl
theorem k161_ok : k161.Ok Tryz.prog := con_fn [] trivial f161_eq fun _ _ _ hy => (eval_get_ret _).symm.trans hy
abbrev f159_S0 := (List Int × Int × Unit) × (List (List Int) × Unit)
def f159_L0 : f159_S0 → Out (Round f159_S0 ((Unit) × (List (List Int) × Unit)) Empty)
| ((p0, p1, _), p2, _) =>
 .ite (decide (p1 < ((List.length p0 : Nat) : Int)))
 .fail
 (.ret (.out ((), (p2, ()))))
def f159_tree (a0 : List Int) : Out (((List (List Int) × Unit) × Unit) × (Unit × Unit)) :=
 .get (iter1 f159_L0 FUEL ((a0, 0, ()), (([] : List (List Int)), ()))) fun y1 =>
 .ret (((y1.2.1, ()), ()), ((), ()))
abbrev f159_s5 : List (Nat × VSlot) := [(64000000, .arr (.sl tyI))]
def f159_A : Nat → Option LoopAnn := fun n => annOf [(0, ⟨⟨[.ro tyI (some 0), .dead, .dead, .srf 64000000, .i .i64] ++ dd 19, f159_s5⟩, ⟨[.dead, .dead, .dead, .srf 64000000] ++ dd 20, f159_s5⟩, none, false⟩)] n
def k159_V := fun a0 => (f159_tree a0).eval
def k159 : Con := { f := 159, lend := true, its := [⟨false, false, [.ro tyI]⟩], lay := [none], rs := [⟨false, false, [.own (.sl tyI)]⟩], F := fun x => .get (k159_V x.1.1) fun y => .ret y }
theorem f159_eq (x : itemsD k159.its) : bo [] f159_A Tryz.f159 k159 [.tmp 2] x = f159_tree x.1.1 := by kernel_rfl
theorem k159_ok : k159.Ok Tryz.prog := con_fn [] trivial f159_eq fun _ _ _ hy => (eval_get_ret _).symm.trans hy
abbrev f68_S2 := (Int × XS) × (UnixD × (Int × Int × Unit) × (Int × Int × Unit) × XM × XO)
def f68_L2 : f68_S2 → Out (Round f68_S2 (XS × (UnixD × (Int × Int × Unit) × (Int × Int × Unit) × XO)) Empty)
| ((p0, p1, p2, p3, _), (p4, p5, p6, p7, p8, p9, p10, p11, p12, _), (p13, p14, _), (p15, p16, _), (p17, p18, p19, p20, p21, p22, p23, p24, p25, p26, _), (p27, p28, p29, p30, p31, p32, p33, _), p34, p35, p36, p37, p38, p39, p40, p41, p42, p43, p44, p45, p46, p47, p48, p49, p50, p51, p52, p53, p54, _) =>
 .ite (decide ((IntKind.i64.wrap (p0 * (4 : Int))) < ((List.length p23 : Nat) : Int)))
 (.ite (decide (0 ≤ (IntKind.i64.wrap (p0 * (4 : Int))) ∧ (IntKind.i64.wrap (p0 * (4 : Int))) ≤ (IntKind.i64.wrap ((IntKind.i64.wrap (p0 + 1)) * (4 : Int))) ∧ (IntKind.i64.wrap ((IntKind.i64.wrap (p0 + 1)) * (4 : Int))) ≤ ((List.length p23 : Nat) : Int)))
 (.get (k155_V p15 p16 p43 p44 p45 p46 p47 p48 p49 p50 p51 (List.drop (Int.toNat (IntKind.i64.wrap (p0 * (4 : Int)))) (List.take (Int.toNat (IntKind.i64.wrap ((IntKind.i64.wrap (p0 + 1)) * (4 : Int)))) p23))) fun (((y1aa, _), _), (y1ab, y1ac, y1ad, y1ae, y1af, y1ag, y1ah, y1ai, y1aj, y1ak, y1al, _), _) =>
 .get (k156_V p53 (0 : Int) ([y1aa] : List Int)) fun y2 =>
 .ret (.again (((IntKind.i64.wrap (p0 + 1)), p1, p2, p3, ()), ((p4, p5, p6, p7, p8, p9, p10, p11, p12, ()), (p13, p14, ()), (y1ab, y1ac, ()), (p17, p18, p19, p20, p21, p22, p23, p24, p25, p26, ()), (p27, p28, p29, p30, p31, p32, p33, ()), p34, p35, p36, p37, p38, p39, p40, p41, p42, y1ad, y1ae, y1af, y1ag, y1ah, y1ai, y1aj, y1ak, y1al, p52, y2.1.1.1, p54, ()))))
 .fail)
 (.ret (.out ((p1, p2, p3, ()), ((p4, p5, p6, p7, p8, p9, p10, p11, p12, ()), (p13, p14, ()), (p15, p16, ()), (p27, p28, p29, p30, p31, p32, p33, ()), p34, p35, p36, p37, p38, p39, p40, p41, p42, p43, p44, p45, p46, p47, p48, p49, p50, p51, p52, p53, p54, ()))))
abbrev f68_S0 := XS × (UnixD × XC)
def f68_L0 : f68_S0 → Out (Round f68_S0 ((Unit) × (UnixD × XC)) Empty)
| ((p0, p1, p2, _), (p3, p4, p5, p6, p7, p8, p9, p10, p11, _), (p12, p13, _), (p14, p15, _), p16, p17, p18, p19, p20, p21, p22, p23, p24, p25, p26, p27, p28, p29, p30, p31, p32, p33, _) =>
 .ite (decide (p2 < p1))
 (.ite (decide (0 ≤ p2))
 (.get (nth p0 (Int.toNat p2)) fun (y1aa, y1ab, y1ac, y1ad, (y1ae, y1af, _), y1ag, y1ah, y1ai, y1aj, _) =>
 .get (cloneCpuV y1ae y1af) fun y2 =>
 .get (cloneV y1ah) fun y3 =>
 .get (iter1 f68_L2 FUEL ((0, p0, p1, p2, ()), ((p3, p4, p5, p6, p7, p8, p9, p10, p11, ()), (p12, p13, ()), (p14, p15, ()), (y1aa, y1ab, y1ac, y1ad, y1ae, y1af, y1ag, y1ah, y1ai, y1aj, ()), (y1aa, y1ab, y1ac, y1ad, y2.1, y1ai, y1aj, ()), p16, p17, p18, p19, p20, p21, p22, p23, p24, p25, p26, p27, p28, p29, p30, p31, p32, p33, y2.2, ([] : List Int), y3, ()))) fun ((y4aa, y4ab, y4ac, _), (y4ad, y4ae, y4af, y4ag, y4ah, y4ai, y4aj, y4ak, y4al, _), (y4am, y4an, _), (y4ao, y4ap, _), (y4aq, y4ar, y4as, y4at, y4au, y4av, y4aw, _), y4ax, y4ay, y4az, y4ba, y4bb, y4bc, y4bd, y4be, y4bf, y4bg, y4bh, y4bi, y4bj, y4bk, y4bl, y4bm, y4bn, y4bo, y4bp, y4bq, y4br, _) =>
 .get (k157_V y4bh (0 : Int) ([(y4aq, y4ar, y4as, y4at, (y4au, y4bp, ()), y4bq, y4br, y4av, y4aw, ())] : List ProcD)) fun y5 =>
 .ret (.again ((y4aa, y4ab, (IntKind.i64.wrap (y4ac + 1)), ()), ((y4ad, y4ae, y4af, y4ag, y4ah, y4ai, y4aj, y4ak, y4al, ()), (y4am, y4an, ()), (y4ao, y4ap, ()), y4ax, y4ay, y4az, y4ba, y4bb, y4bc, y4bd, y4be, y4bf, y4bg, y5.1.1.1, y4bi, y4bj, y4bk, y4bl, y4bm, y4bn, y4bo, ()))))
 .fail)
 (.ret (.out ((), ((p3, p4, p5, p6, p7, p8, p9, p10, p11, ()), (p12, p13, ()), (p14, p15, ()), p16, p17, p18, p19, p20, p21, p22, p23, p24, p25, p26, p27, p28, p29, p30, p31, p32, p33, ()))))
abbrev f68_S4 := (List CpuD × Int × Int × Unit) × XC
def f68_L4 : f68_S4 → Out (Round f68_S4 ((Unit) × XC) Empty)
| ((p0, p1, p2, _), (p3, p4, _), (p5, p6, _), p7, p8, p9, p10, p11, p12, p13, p14, p15, p16, p17, p18, p19, p20, p21, p22, p23, p24, _) =>
 .ite (decide (p2 < p1))
 (.ite (decide (0 ≤ p2))
 (.get (nth p0 (Int.toNat p2)) fun y1 =>
 .get (k159_V y1.2.1) fun y2 =>
 .get (k158_V p21 (0 : Int) ([(y1.1, y2.1.1.1, ())] : List (XH))) fun y3 =>
 .ret (.again ((p0, p1, (IntKind.i64.wrap (p2 + 1)), ()), ((p3, p4, ()), (p5, p6, ()), p7, p8, p9, p10, p11, p12, p13, p14, p15, p16, p17, p18, p19, p20, y3.1.1.1, p22, p23, p24, ()))))
 .fail)
 (.ret (.out ((), ((p3, p4, ()), (p5, p6, ()), p7, p8, p9, p10, p11, p12, p13, p14, p15, p16, p17, p18, p19, p20, p21, p22, p23, p24, ()))))
def f68_tree (a0 : Int) (a1 : Int) (a2 : List (List InsD)) (a3 : List ProcD) (a4 : List OpenD) (a5 : List CpuD) (a6 : List CpuD) (a7 : List Int) (a8 : List Int) : Out (((Int × Int × XJ) × (Bool × Unit) × Unit) × (Unit × Unit)) :=
 .get (unixOkP a0 a1 a2 a3 a4 a5 a6 a7 a8) fun y1 =>
 .ite (!y1)
 (.ret (((0, 0, ([] : List (List InsD)), ([] : List ProcD), ([] : List Int), ([] : List (List Int)), ([] : List OpenD), ([] : List (XH)), ([] : List CpuD), ([] : List Int), ([] : List Int), ()), (false, ()), ()), ((), ())))
 (.get (k30_V a2) fun y2 =>
 .ite (decide (0 ≤ (64 : Int) ∧ (64 : Int) ≤ (64 : Int) ∧ (64 : Int) ≤ (LIM : Int)))
 (.get k154_V fun y3 =>
 .get (cloneV a4) fun y4 =>
 .get (k91_V a6) fun y5 =>
 .get (cloneV a7) fun y6 =>
 .get (cloneV a8) fun y7 =>
 .get (iter1 f68_L0 FUEL ((a3, ((List.length a3 : Nat) : Int), 0, ()), ((a0, a1, a2, a3, a4, a5, a6, a7, a8, ()), (0, 0, ()), (a0, a1, ()), ([] : List (List InsD)), ([] : List ProcD), ([] : List Int), ([] : List (List Int)), ([] : List OpenD), ([] : List (XH)), ([] : List CpuD), ([] : List Int), ([] : List Int), y2.1.1.1, ([] : List ProcD), (List.replicate (Int.toNat (64 : Int)) (0 : Int)), y3.1.1.1, y4, ([] : List (XH)), y5.1.1.1, y6, y7, ()))) fun (_, (_, _, _, _, _, y8aa, _), (y8ab, y8ac, _), (y8ad, y8ae, _), y8af, y8ag, y8ah, y8ai, y8aj, y8ak, y8al, y8am, y8an, y8ao, y8ap, y8aq, y8ar, y8as, y8at, y8au, y8av, y8aw, _) =>
 .get (iter1 f68_L4 FUEL ((y8aa, ((List.length y8aa : Nat) : Int), 0, ()), ((y8ab, y8ac, ()), (y8ad, y8ae, ()), y8af, y8ag, y8ah, y8ai, y8aj, y8ak, y8al, y8am, y8an, y8ao, y8ap, y8aq, y8ar, y8as, y8at, y8au, y8av, y8aw, ()))) fun (_, _, (y9aa, y9ab, _), _, _, _, _, _, _, _, _, _, y9ac, y9ad, y9ae, y9af, y9ag, y9ah, y9ai, y9aj, y9ak, _) =>
 .get (k160_V y9ag) fun y10 =>
 .get (k161_V y9ai) fun y11 =>
 .ret (((y9aa, y9ab, y9ac, y9ad, y9ae, y9af, y10.2.1.1, y9ah, y11.2.1.1, y9aj, y9ak, ()), (true, ()), ()), ((), ())))
 .fail)
abbrev f68_s6 : List (Nat × VSlot) := [(64000000, .var [.i .i64, .i .i64, .ro (.sl tyN) (some 0), .ro tyP (some 1), .ro tyO (some 2), .ro tyF (some 3), .ro tyF (some 4), .ro tyI (some 5), .ro tyI (some 6)]), (64000001, .var [.i .i64, .i .i64, .srf 64000003, .srf 64000004, .srf 64000005, .srf 64000006, .srf 64000007, .srf 64000008, .srf 64000009, .srf 64000010, .srf 64000011]), (64000002, .var [.i .i64, .i .i64, .srf 64000012, .srf 64000013, .srf 64000014, .srf 64000015, .srf 64000016, .srf 64000017, .srf 64000018, .srf 64000019, .srf 64000020]), (64000003, .arr (.sl tyN)), (64000004, .arr tyP), (64000005, .arr tyI), (64000006, .arr (.sl tyI)), (64000007, .arr tyO), (64000008, .arr tyU), (64000009, .arr tyF), (64000010, .arr tyI), (64000011, .arr tyI), (64000012, .arr (.sl tyN)), (64000013, .arr tyP), (64000014, .arr tyI), (64000015, .arr (.sl tyI)), (64000016, .arr tyO), (64000017, .arr tyU), (64000018, .arr tyF), (64000019, .arr tyI), (64000020, .arr tyI)]
abbrev f68_s7 : List (Nat × VSlot) := [(64000000, .var [.i .i64, .i .i64, .srf 64000002, .srf 64000003, .srf 64000004, .srf 64000005, .srf 64000006, .srf 64000007, .srf 64000008, .srf 64000009, .srf 64000010]), (64000001, .var [.i .i64, .i .i64, .srf 64000011, .srf 64000012, .srf 64000013, .srf 64000014, .srf 64000015, .srf 64000016, .srf 64000017, .srf 64000018, .srf 64000019]), (64000002, .arr (.sl tyN)), (64000003, .arr tyP), (64000004, .arr tyI), (64000005, .arr (.sl tyI)), (64000006, .arr tyO), (64000007, .arr tyU), (64000008, .arr tyF), (64000009, .arr tyI), (64000010, .arr tyI), (64000011, .arr (.sl tyN)), (64000012, .arr tyP), (64000013, .arr tyI), (64000014, .arr (.sl tyI)), (64000015, .arr tyO), (64000016, .arr tyU), (64000017, .arr tyF), (64000018, .arr tyI), (64000019, .arr tyI)]
def f68_A : Nat → Option LoopAnn := fun n => annOf [(0, ⟨⟨[.dead, .vptr 64000000 0, .vptr 64000001 0, .dead, .vptr 64000002 0] ++ dd 34 ++ [.ro tyP (some 1), .i .i64, .i .i64] ++ dd 78, f68_s6⟩, ⟨[.dead, .vptr 64000000 0, .vptr 64000001 0, .dead, .vptr 64000002 0] ++ dd 115, f68_s6⟩, none, false⟩), (2, ⟨⟨[.dead, .vptr 64000000 0, .vptr 64000001 0, .dead, .vptr 64000002 0, .dead, .vptr 64000003 0, .vptr 64000004 0, .i .i64] ++ dd 30 ++ [.ro tyP (some 1), .i .i64, .i .i64] ++ dd 78, [(64000000, .var [.i .i64, .i .i64, .ro (.sl tyN) (some 0), .ro tyP (some 1), .ro tyO (some 2), .ro tyF (some 3), .ro tyF (some 4), .ro tyI (some 5), .ro tyI (some 6)]), (64000001, .var [.i .i64, .i .i64, .srf 64000005, .srf 64000006, .srf 64000007, .srf 64000008, .srf 64000009, .srf 64000010, .srf 64000011, .srf 64000012, .srf 64000013]), (64000002, .var [.i .i64, .i .i64, .srf 64000014, .srf 64000015, .srf 64000016, .srf 64000017, .srf 64000018, .srf 64000019, .srf 64000020, .srf 64000021, .srf 64000022]), (64000003, .var [.i .i64, .i .i64, .i .i64, .i .i64, .i .i64, .ro tyI none, .ro tyI none, .ro tyI none, .i .i64, .i .i64]), (64000004, .var [.i .i64, .i .i64, .i .i64, .i .i64, .i .i64, .srf 64000023, .srf 64000024, .srf 64000025, .i .i64, .i .i64]), (64000005, .arr (.sl tyN)), (64000006, .arr tyP), (64000007, .arr tyI), (64000008, .arr (.sl tyI)), (64000009, .arr tyO), (64000010, .arr tyU), (64000011, .arr tyF), (64000012, .arr tyI), (64000013, .arr tyI), (64000014, .arr (.sl tyN)), (64000015, .arr tyP), (64000016, .arr tyI), (64000017, .arr (.sl tyI)), (64000018, .arr tyO), (64000019, .arr tyU), (64000020, .arr tyF), (64000021, .arr tyI), (64000022, .arr tyI), (64000023, .arr tyI), (64000024, .arr tyI), (64000025, .arr tyI)]⟩, ⟨[.dead, .vptr 64000000 0, .vptr 64000001 0, .dead, .vptr 64000002 0, .dead, .dead, .vptr 64000003 0] ++ dd 31 ++ [.ro tyP (some 1), .i .i64, .i .i64] ++ dd 78, [(64000000, .var [.i .i64, .i .i64, .ro (.sl tyN) (some 0), .ro tyP (some 1), .ro tyO (some 2), .ro tyF (some 3), .ro tyF (some 4), .ro tyI (some 5), .ro tyI (some 6)]), (64000001, .var [.i .i64, .i .i64, .srf 64000004, .srf 64000005, .srf 64000006, .srf 64000007, .srf 64000008, .srf 64000009, .srf 64000010, .srf 64000011, .srf 64000012]), (64000002, .var [.i .i64, .i .i64, .srf 64000013, .srf 64000014, .srf 64000015, .srf 64000016, .srf 64000017, .srf 64000018, .srf 64000019, .srf 64000020, .srf 64000021]), (64000003, .var [.i .i64, .i .i64, .i .i64, .i .i64, .i .i64, .srf 64000022, .srf 64000023, .srf 64000024, .i .i64, .i .i64]), (64000004, .arr (.sl tyN)), (64000005, .arr tyP), (64000006, .arr tyI), (64000007, .arr (.sl tyI)), (64000008, .arr tyO), (64000009, .arr tyU), (64000010, .arr tyF), (64000011, .arr tyI), (64000012, .arr tyI), (64000013, .arr (.sl tyN)), (64000014, .arr tyP), (64000015, .arr tyI), (64000016, .arr (.sl tyI)), (64000017, .arr tyO), (64000018, .arr tyU), (64000019, .arr tyF), (64000020, .arr tyI), (64000021, .arr tyI), (64000022, .arr tyI), (64000023, .arr tyI), (64000024, .arr tyI)]⟩, none, false⟩), (4, ⟨⟨[.dead, .dead, .vptr 64000000 0, .dead, .vptr 64000001 0] ++ dd 90 ++ [.ro tyF (some 3), .i .i64, .i .i64] ++ dd 22, f68_s7⟩, ⟨[.dead, .dead, .vptr 64000000 0, .dead, .vptr 64000001 0] ++ dd 115, f68_s7⟩, none, false⟩)] n
def k68_V := fun a0 a1 a2 a3 a4 a5 a6 a7 a8 => (f68_tree a0 a1 a2 a3 a4 a5 a6 a7 a8).eval
def k68 : Con := { f := 68, lend := true, its := [⟨false, true, [.i .i64, .i .i64, .ro (.sl tyN), .ro tyP, .ro tyO, .ro tyF, .ro tyF, .ro tyI, .ro tyI]⟩], lay := [none], rs := [⟨false, true, [.i .i64, .i .i64, .own (.sl tyN), .own tyP, .own tyI, .own (.sl tyI), .own tyO, .own tyU, .own tyF, .own tyI, .own tyI]⟩, ⟨false, false, [.b]⟩], F := fun x => .get (k68_V x.1.1 x.1.2.1 x.1.2.2.1 x.1.2.2.2.1 x.1.2.2.2.2.1 x.1.2.2.2.2.2.1 x.1.2.2.2.2.2.2.1 x.1.2.2.2.2.2.2.2.1 x.1.2.2.2.2.2.2.2.2.1) fun y => .ret y }
theorem f68_eq (x : itemsD k68.its) : bo [k149, k30, k154, k90, k91, k84, k92, k155, k156, k157, k159, k158, k160, k161] f68_A Tryz.f68 k68 [.cell 2 50, .tmp 3] x = f68_tree x.1.1 x.1.2.1 x.1.2.2.1 x.1.2.2.2.1 x.1.2.2.2.2.1 x.1.2.2.2.2.2.1 x.1.2.2.2.2.2.2.1 x.1.2.2.2.2.2.2.2.1 x.1.2.2.2.2.2.2.2.2.1 := by kernel_rfl
theorem k68_ok : k68.Ok Tryz.prog := con_fn [k149, k30, k154, k90, k91, k84, k92, k155, k156, k157, k159, k158, k160, k161] ⟨k149_ok, k30_ok, k154_ok, k90_ok, k91_ok, k84_ok, k92_ok, k155_ok, k156_ok, k157_ok, k159_ok, k158_ok, k160_ok, k161_ok, trivial⟩ f68_eq fun _ _ _ hy => (eval_get_ret _).symm.trans hy
def f33_tree (a0 : Int) (a1 : Int) (a2 : List (List InsD)) (a3 : List ProcD) (a4 : List OpenD) (a5 : List CpuD) (a6 : List CpuD) (a7 : List Int) (a8 : List Int) (a9 : Int) : Out ((XD × (Bool × Unit) × Unit) × XI) :=
 .ite ((a9 == 1))
 (.get (k67_V a0 a1 a2 a3 a4 a5 a6 a7 a8) fun (((y1aa, y1ab, y1ac, y1ad, y1ae, y1af, y1ag, y1ah, y1ai, y1aj, y1ak, y1al, y1am, y1an, _), (y1ao, _), _), _) =>
 .ite (!y1ao)
 (.ret (((0, 0, 0, ([] : List (List InsD)), ([] : List (XB)), ([] : List Int), ([] : List (Bool)), ([] : List (XF)), ([] : List ((Bool × XE))), ([] : List (XK)), false, ([] : List Int), 0, 0, ([] : List Int), 0, 0, ([] : List (List InsD)), ([] : List ProcD), ([] : List Int), ([] : List (List Int)), ([] : List OpenD), ([] : List (XH)), ([] : List CpuD), ([] : List Int), ([] : List Int), ()), (false, ()), ()), ((), (), ())))
 (.ret (((a9, y1aa, y1ab, y1ac, y1ad, y1ae, y1af, y1ag, y1ah, y1ai, y1aj, y1ak, y1al, y1am, y1an, 0, 0, ([] : List (List InsD)), ([] : List ProcD), ([] : List Int), ([] : List (List Int)), ([] : List OpenD), ([] : List (XH)), ([] : List CpuD), ([] : List Int), ([] : List Int), ()), (true, ()), ()), ((), (), ()))))
 (.ite ((a9 == 2))
 (.get (k68_V a0 a1 a2 a3 a4 a5 a6 a7 a8) fun (((y2aa, y2ab, y2ac, y2ad, y2ae, y2af, y2ag, y2ah, y2ai, y2aj, y2ak, _), (y2al, _), _), _) =>
 .ite (!y2al)
 (.ret (((0, 0, 0, ([] : List (List InsD)), ([] : List (XB)), ([] : List Int), ([] : List (Bool)), ([] : List (XF)), ([] : List ((Bool × XE))), ([] : List (XK)), false, ([] : List Int), 0, 0, ([] : List Int), 0, 0, ([] : List (List InsD)), ([] : List ProcD), ([] : List Int), ([] : List (List Int)), ([] : List OpenD), ([] : List (XH)), ([] : List CpuD), ([] : List Int), ([] : List Int), ()), (false, ()), ()), ((), (), ())))
 (.ret (((a9, 0, 0, ([] : List (List InsD)), ([] : List (XB)), ([] : List Int), ([] : List (Bool)), ([] : List (XF)), ([] : List ((Bool × XE))), ([] : List (XK)), false, ([] : List Int), 0, 0, ([] : List Int), y2aa, y2ab, y2ac, y2ad, y2ae, y2af, y2ag, y2ah, y2ai, y2aj, y2ak, ()), (true, ()), ()), ((), (), ()))))
 (.ret (((0, 0, 0, ([] : List (List InsD)), ([] : List (XB)), ([] : List Int), ([] : List (Bool)), ([] : List (XF)), ([] : List ((Bool × XE))), ([] : List (XK)), false, ([] : List Int), 0, 0, ([] : List Int), 0, 0, ([] : List (List InsD)), ([] : List ProcD), ([] : List Int), ([] : List (List Int)), ([] : List OpenD), ([] : List (XH)), ([] : List CpuD), ([] : List Int), ([] : List Int), ()), (false, ()), ()), ((), (), ()))))
def k33_V := fun a0 a1 a2 a3 a4 a5 a6 a7 a8 a9 => (f33_tree a0 a1 a2 a3 a4 a5 a6 a7 a8 a9).eval
def k33 : Con := { f := 33, lend := true, its := [⟨false, true, [.i .i64, .i .i64, .ro (.sl tyN), .ro tyP, .ro tyO, .ro tyF, .ro tyF, .ro tyI, .ro tyI]⟩, ⟨false, false, [.i .i64]⟩], lay := [none, none], rs := [⟨false, true, [.i .i64, .i .i64, .i .i64, .own (.sl tyN), .own tyQ, .own tyI, .own .bool, .own tyS, .own tyR, .own tyT, .b, .own tyI, .i .i64, .i .i64, .own tyI, .i .i64, .i .i64, .own (.sl tyN), .own tyP, .own tyI, .own (.sl tyI), .own tyO, .own tyU, .own tyF, .own tyI, .own tyI]⟩, ⟨false, false, [.b]⟩], F := fun x => .get (k33_V x.1.1 x.1.2.1 x.1.2.2.1 x.1.2.2.2.1 x.1.2.2.2.2.1 x.1.2.2.2.2.2.1 x.1.2.2.2.2.2.2.1 x.1.2.2.2.2.2.2.2.1 x.1.2.2.2.2.2.2.2.2.1 x.2.1.1) fun y => .ret y }
theorem f33_eq (x : itemsD k33.its) : bo [k67, k68] (fun _ => none) Tryz.f33 k33 [.cell 4 52, .tmp 5] x = f33_tree x.1.1 x.1.2.1 x.1.2.2.1 x.1.2.2.2.1 x.1.2.2.2.2.1 x.1.2.2.2.2.2.1 x.1.2.2.2.2.2.2.1 x.1.2.2.2.2.2.2.2.1 x.1.2.2.2.2.2.2.2.2.1 x.2.1.1 := by kernel_rfl
theorem k33_ok : k33.Ok Tryz.prog := con_fn [k67, k68] ⟨k67_ok, k68_ok, trivial⟩ f33_eq fun _ _ _ hy => (eval_get_ret _).symm.trans hy
def f9_tree (a0 : List (List InsD)) (a1 : Int) : Out ((XD × (Bool × Unit) × Unit) × XI) :=
 .get (k7_V a0) fun (((y1aa, y1ab, y1ac, y1ad, y1ae, y1af, y1ag, y1ah, y1ai, _), (y1aj, _), _), _) =>
 .ite (!y1aj)
 (.ret (((0, 0, 0, ([] : List (List InsD)), ([] : List (XB)), ([] : List Int), ([] : List (Bool)), ([] : List (XF)), ([] : List ((Bool × XE))), ([] : List (XK)), false, ([] : List Int), 0, 0, ([] : List Int), 0, 0, ([] : List (List InsD)), ([] : List ProcD), ([] : List Int), ([] : List (List Int)), ([] : List OpenD), ([] : List (XH)), ([] : List CpuD), ([] : List Int), ([] : List Int), ()), (false, ()), ()), ((), (), ())))
 (.get (k33_V y1aa y1ab y1ac y1ad y1ae y1af y1ag y1ah y1ai a1) fun (((y2aa, y2ab, y2ac, y2ad, y2ae, y2af, y2ag, y2ah, y2ai, y2aj, y2ak, y2al, y2am, y2an, y2ao, y2ap, y2aq, y2ar, y2as, y2at, y2au, y2av, y2aw, y2ax, y2ay, y2az, _), (y2ba, _), _), _) =>
 .ret (((y2aa, y2ab, y2ac, y2ad, y2ae, y2af, y2ag, y2ah, y2ai, y2aj, y2ak, y2al, y2am, y2an, y2ao, y2ap, y2aq, y2ar, y2as, y2at, y2au, y2av, y2aw, y2ax, y2ay, y2az, ()), (y2ba, ()), ()), ((), (), ())))
def k9_V := fun a0 a1 => (f9_tree a0 a1).eval
def k9 : Con := { f := 9, lend := true, its := [⟨false, false, [.ro (.sl tyN)]⟩, ⟨false, false, [.i .i64]⟩], lay := [none, none], rs := [⟨false, true, [.i .i64, .i .i64, .i .i64, .own (.sl tyN), .own tyQ, .own tyI, .own .bool, .own tyS, .own tyR, .own tyT, .b, .own tyI, .i .i64, .i .i64, .own tyI, .i .i64, .i .i64, .own (.sl tyN), .own tyP, .own tyI, .own (.sl tyI), .own tyO, .own tyU, .own tyF, .own tyI, .own tyI]⟩, ⟨false, false, [.b]⟩], F := fun x => .get (k9_V x.1.1 x.2.1.1) fun y => .ret y }
theorem f9_eq (x : itemsD k9.its) : bo [k7, k33] (fun _ => none) Tryz.f9 k9 [.cell 4 52, .tmp 5] x = f9_tree x.1.1 x.2.1.1 := by kernel_rfl
theorem k9_ok : k9.Ok Tryz.prog := con_fn [k7, k33] ⟨k7_ok, k33_ok, trivial⟩ f9_eq fun _ _ _ hy => (eval_get_ret _).symm.trans hy
end Go.Proofs.YtnnpnkegpkladaaGreat.Dm
