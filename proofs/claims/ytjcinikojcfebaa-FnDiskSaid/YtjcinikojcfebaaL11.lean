/- Functions of the program, and what they compute. -/
import Derived.Test.YtjcinikojcfebaaA7
import Derived.Test.YtjcinikojcfebaaFacts
import Derived.Test.YtjcinikojcfebaaRows
import Derived.ChangeCalls
namespace Go.Proofs.Ytjcinikojcfebaa.Dm
open Go Go.ChangeShapes Go.WideShapes Go.ChangeAt Go.RowKit

abbrev f7_S0 := (Int × Int × Unit) × (Unit × Unit × List (List UInt8) × List (List UInt8) × List (List UInt8) × List ((Int × List UInt8 × Unit)) × List (List UInt8) × List ((Int × List UInt8 × Unit)) × Unit)
def f7_L0 (x : f7_S0) : Out (Round f7_S0 ((Unit) × (Unit × Unit × List (List UInt8) × List (List UInt8) × List (List UInt8) × List ((Int × List UInt8 × Unit)) × List (List UInt8) × List ((Int × List UInt8 × Unit)) × Unit)) Empty) :=
 .ite (decide (x.1.2.1 < ((List.length x.2.2.2.2.2.2.1 : Nat) : Int)))
 (.ite ((decide (x.1.1 ≥ (0 : Int))) == true)
 (.ite (decide ((IntKind.u64.wrap x.1.2.1) < 0))
 .fail
 (.ite (((IntKind.i64.wrap (((BitVec.ofInt (IntKind.bits IntKind.i64) (Int.fdiv x.1.1 (2 ^ (min (Int.toNat (IntKind.u64.wrap x.1.2.1)) (IntKind.bits IntKind.i64)))) &&& BitVec.ofInt (IntKind.bits IntKind.i64) (1 : Int)).toNat : Int))) == (1 : Int)))
 (.ite (decide (0 ≤ x.1.2.1 ∧ x.1.2.1 < ((List.length x.2.2.2.2.2.2.1 : Nat) : Int)))
 (.get (nth x.2.2.2.2.2.2.1 (Int.toNat x.1.2.1)) fun y1 =>
 .ite (decide (0 ≤ x.1.2.1 ∧ x.1.2.1 < ((List.length x.2.2.2.2.2.2.1 : Nat) : Int)))
 (.get (nth x.2.2.2.2.2.2.1 (Int.toNat x.1.2.1)) fun y2 =>
 .ite (decide (0 ≤ y1.1 ∧ y1.1 < ((List.length x.2.2.2.1 : Nat) : Int)))
 (.get (nth x.2.2.2.1 (Int.toNat y1.1)) fun y3 =>
 .ite (decide (0 ≤ x.1.2.1 ∧ x.1.2.1 < ((List.length x.2.2.2.2.2.2.1 : Nat) : Int)))
 (.get (nth x.2.2.2.2.2.2.1 (Int.toNat x.1.2.1)) fun y4 =>
 .ite (decide (0 ≤ x.1.2.1 ∧ x.1.2.1 < ((List.length x.2.2.2.2.2.2.1 : Nat) : Int)))
 (.get (nth x.2.2.2.2.2.2.1 (Int.toNat x.1.2.1)) fun y5 =>
 .ite (decide (0 ≤ y4.1 ∧ y4.1 < ((List.length x.2.2.2.2.1 : Nat) : Int)))
 (.get (nth x.2.2.2.2.1 (Int.toNat y4.1)) fun y6 =>
 .ret (.again ((x.1.1, (IntKind.i64.wrap (x.1.2.1 + (1 : Int))), ()), ((), (), (List.set x.2.2.2.1 (Int.toNat y1.1) y2.2.1), (List.set x.2.2.2.2.1 (Int.toNat y4.1) y5.2.1), x.2.2.2.2.2.1, x.2.2.2.2.2.2.1, x.2.2.2.2.2.2.2.1, x.2.2.2.2.2.2.2.2.1, ()))))
 .fail)
 .fail)
 .fail)
 .fail)
 .fail)
 .fail)
 (.ite (decide (0 ≤ x.1.2.1 ∧ x.1.2.1 < ((List.length x.2.2.2.2.2.2.1 : Nat) : Int)))
 (.get (nth x.2.2.2.2.2.2.1 (Int.toNat x.1.2.1)) fun y7 =>
 .ite (decide (0 ≤ x.1.2.1 ∧ x.1.2.1 < ((List.length x.2.2.2.2.2.2.1 : Nat) : Int)))
 (.get (nth x.2.2.2.2.2.2.1 (Int.toNat x.1.2.1)) fun y8 =>
 .ite (decide (0 ≤ y7.1 ∧ y7.1 < ((List.length x.2.2.2.2.1 : Nat) : Int)))
 (.get (nth x.2.2.2.2.1 (Int.toNat y7.1)) fun y9 =>
 .ret (.again ((x.1.1, (IntKind.i64.wrap (x.1.2.1 + (1 : Int))), ()), ((), (), x.2.2.2.1, (List.set x.2.2.2.2.1 (Int.toNat y7.1) y8.2.1), x.2.2.2.2.2.1, x.2.2.2.2.2.2.1, x.2.2.2.2.2.2.2.1, x.2.2.2.2.2.2.2.2.1, ()))))
 .fail)
 .fail)
 .fail)))
 (.ite (decide (0 ≤ x.1.2.1 ∧ x.1.2.1 < ((List.length x.2.2.2.2.2.2.1 : Nat) : Int)))
 (.get (nth x.2.2.2.2.2.2.1 (Int.toNat x.1.2.1)) fun y10 =>
 .ite (decide (0 ≤ x.1.2.1 ∧ x.1.2.1 < ((List.length x.2.2.2.2.2.2.1 : Nat) : Int)))
 (.get (nth x.2.2.2.2.2.2.1 (Int.toNat x.1.2.1)) fun y11 =>
 .ite (decide (0 ≤ y10.1 ∧ y10.1 < ((List.length x.2.2.2.2.1 : Nat) : Int)))
 (.get (nth x.2.2.2.2.1 (Int.toNat y10.1)) fun y12 =>
 .ret (.again ((x.1.1, (IntKind.i64.wrap (x.1.2.1 + (1 : Int))), ()), ((), (), x.2.2.2.1, (List.set x.2.2.2.2.1 (Int.toNat y10.1) y11.2.1), x.2.2.2.2.2.1, x.2.2.2.2.2.2.1, x.2.2.2.2.2.2.2.1, x.2.2.2.2.2.2.2.2.1, ()))))
 .fail)
 .fail)
 .fail))
 (.ret (.out ((), ((), (), x.2.2.2.1, x.2.2.2.2.1, x.2.2.2.2.2.1, x.2.2.2.2.2.2.1, x.2.2.2.2.2.2.2.1, x.2.2.2.2.2.2.2.2.1, ()))))
def f7_tree (a0 : List Int) : Out (((Bool × Unit) × Unit) × (Unit × Unit)) :=
 .ite (bigV a0)
 (.ret (((true, ()), ()), ((), ())))
 (.get (k46_V a0) fun y1 =>
 .get (fallV y1.1.1.1 y1.1.1.2.1 y1.1.2.1.1) fun y2 =>
 .ite (!(diskOkV y1.1.1.1 y1.1.1.2.1))
 (.ite (((((List.length y2.1 : Nat) : Int) == (0 : Int))) == true)
 (.get (flushV y1.1.1.1 y1.1.1.2.1) fun y3 =>
 .ret (((((((List.length y3.1 : Nat) : Int) == (0 : Int))), ()), ()), ((), ())))
 (.ret (((false, ()), ()), ((), ()))))
 (.ite (decide (List.length ([] : List (List UInt8)) + List.length y1.1.1.1 ≤ LIM))
 (.ite (decide (List.length ([] : List (List UInt8)) + List.length y1.1.1.1 ≤ LIM))
 (.get (iter1 f7_L0 FUEL ((y1.1.2.1.1, (0 : Int), ()), ((), (), (([] : List (List UInt8)) ++ y1.1.1.1), (([] : List (List UInt8)) ++ y1.1.1.1), y1.1.1.1, y1.1.1.2.1, y2.1, y2.2, ()))) fun y4 =>
 .ite ((eqStrsV y4.2.2.2.2.2.2.2.1 y4.2.2.2.1) == true)
 (.ite (((((List.length y4.2.2.2.2.2.2.2.2.1 : Nat) : Int) == (0 : Int))) == true)
 (.get (flushV y4.2.2.2.2.2.1 y4.2.2.2.2.2.2.1) fun y5 =>
 .ite ((eqStrsV y5.1 y4.2.2.2.2.1) == true)
 (.get (fallV y4.2.2.2.2.2.1 y4.2.2.2.2.2.2.1 (0 : Int)) fun y6 =>
 .ret ((((eqStrsV y6.1 y4.2.2.2.2.2.1), ()), ()), ((), ())))
 (.ret (((false, ()), ()), ((), ()))))
 (.ret (((false, ()), ()), ((), ()))))
 (.ret (((false, ()), ()), ((), ()))))
 .fail)
 .fail))
def f7_A : Nat → Option LoopAnn := fun n => annOf [(0, { head := { t := [.dead, .dead, .dead, .vptr 64000000 0, .i .i64, .vptr 64000001 0, .srf 64000002, .srf 64000003, .i .i64, .dead, .dead, .dead, .dead, .dead, .dead, .dead, .dead, .dead, .dead, .dead, .dead, .dead, .dead, .dead, .dead, .dead, .dead, .dead, .dead, .dead, .dead, .dead, .dead, .dead, .dead, .dead, .dead, .dead, .dead, .dead, .dead, .dead, .dead, .dead, .dead, .dead, .dead, .dead, .dead, .dead, .dead, .dead, .dead, .dead, .dead, .dead, .dead, .dead, .dead, .dead, .dead, .dead, .dead, .dead, .dead, .dead, .dead, .dead, .dead, .dead, .dead, .dead, .dead, .dead, .dead, .dead, .dead, .dead, .dead, .dead, .dead, .dead, .dead, .dead, .dead, .dead, .dead, .dead, .dead, .dead, .dead, .dead, .dead, .dead, .dead, .dead, .dead, .dead, .dead, .dead, .dead, .dead, .dead, .dead, .dead, .dead, .dead, .dead, .dead, .dead, .dead], v := [(64000000, .var [.srf 64000004, .srf 64000005]), (64000001, .var [.srf 64000006, .srf 64000007]), (64000002, .arr .str), (64000003, .arr .str), (64000004, .arr .str), (64000005, .arr (.st (.cons (.int .i64) (.cons .str .nil)))), (64000006, .arr .str), (64000007, .arr (.st (.cons (.int .i64) (.cons .str .nil))))] }, out := { t := [.dead, .dead, .dead, .vptr 64000256 0, .dead, .vptr 64000257 0, .srf 64000258, .srf 64000259, .dead, .dead, .dead, .dead, .dead, .dead, .dead, .dead, .dead, .dead, .dead, .dead, .dead, .dead, .dead, .dead, .dead, .dead, .dead, .dead, .dead, .dead, .dead, .dead, .dead, .dead, .dead, .dead, .dead, .dead, .dead, .dead, .dead, .dead, .dead, .dead, .dead, .dead, .dead, .dead, .dead, .dead, .dead, .dead, .dead, .dead, .dead, .dead, .dead, .dead, .dead, .dead, .dead, .dead, .dead, .dead, .dead, .dead, .dead, .dead, .dead, .dead, .dead, .dead, .dead, .dead, .dead, .dead, .dead, .dead, .dead, .dead, .dead, .dead, .dead, .dead, .dead, .dead, .dead, .dead, .dead, .dead, .dead, .dead, .dead, .dead, .dead, .dead, .dead, .dead, .dead, .dead, .dead, .dead, .dead, .dead, .dead, .dead, .dead, .dead, .dead, .dead, .dead], v := [(64000256, .var [.srf 64000260, .srf 64000261]), (64000257, .var [.srf 64000262, .srf 64000263]), (64000258, .arr .str), (64000259, .arr .str), (64000260, .arr .str), (64000261, .arr (.st (.cons (.int .i64) (.cons .str .nil)))), (64000262, .arr .str), (64000263, .arr (.st (.cons (.int .i64) (.cons .str .nil))))] }, ret := none })] n
def true1c (_ : List Int) : Bool := true
def k7 : Con := { f := 7, lend := true, its := [⟨false, false, [.ro (.int .u8)]⟩], lay := [none], rs := [⟨false, false, [.b]⟩], F := fun x => .ret ((((true1c x.1.1), ()), ()), ((), ())) }
theorem f7_eq (x : itemsD k7.its) : bodyOut (cxOf [k45, k46, k47, k37, k48, k49]) (f7_A) (codeOf Try.f7) k7.its k7.lay Try.f7.ntmps k7.rs [.tmp 2] x = f7_tree x.1.1 := by kernel_rfl
theorem f7_ok (hr : ∀ x : (List Int × Unit) × Unit, itemsWF k7.its x → (f7_tree x.1.1).eval = (k7.F x).eval) : k7.Ok Try.prog :=
  con_fn [k45, k46, k47, k37, k48, k49] ⟨k45_ok, k46_ok, k47_ok, k37_ok, k48_ok, k49_ok, trivial⟩ (by kernel_rfl) (codeOf_eq (by kernel_rfl)) (by kernel_rfl) (by kernel_rfl) (by kernel_rfl) f7_eq fun x hw _ hy => (hr x hw).trans hy
theorem k7_ok : k7.Ok Try.prog := by
  refine f7_ok fun x hw => ?_
  obtain ⟨⟨c, _⟩, _⟩ := x
  have hc : c.length ≤ BIG := hw.1.1.1
  show (f7_tree c).eval = some (((true, ()), ()), ((), ()))
  unfold f7_tree
  by_cases hb : bigV c = true
  · rw [eval_ite_t hb]; rfl
  rw [eval_ite_f (by simpa using hb)]
  obtain ⟨y, e, hy⟩ := drawFall_tot hc
  refine (eval_get_some e).trans ?_
  obtain ⟨⟨⟨a, b, _⟩, ⟨m, _⟩, _⟩, _⟩ := y
  dsimp only at hy ⊢
  by_cases h : diskOkV a b = true
  · have hp := diskOkV_parts h
    have hf := diskOkV_fit h
    have l1 : decide (List.length ([] : List (List UInt8)) + List.length a ≤ LIM) = true := decide_eq_true (by rw [LIM_eq]; simp; omega)
    have t1 : fallV a b m = some (applyV (fun i => bitE i m) a b, []) := by unfold fallV; rw [if_pos h]
    have t2 : fallV a b 0 = some (a, []) := by unfold fallV; rw [if_pos h, applyV_none bitE_zero]
    have t3 : flushV a b = some (applyV (fun _ => true) a b, []) := by unfold flushV; rw [if_pos h]
    refine (eval_get_some t1).trans ?_
    rw [eval_ite_f (by simp [h]), eval_ite_t l1, eval_ite_t l1]
    have := foldl_loop (f := f7_L0) (fun (s : (List Str × Nat) × (List Str × Nat)) i => (s.1.2 = i ∧ s.1.1.length = a.length) ∧ s.2.1.length = a.length) (fun s x => (stepD (fun i => bitE i m) s.1 x, stepD (fun _ => true) s.2 x)) b
      (fun s i => ((m, (((i : Nat) : Int), ())), ((), ((), (s.1.1, (s.2.1, (a, (b, (applyV (fun i => bitE i m) a b, (([] : List WriteD), ())))))))))) (fun s => ((), ((), ((), (s.1.1, (s.2.1, (a, (b, (applyV (fun i => bitE i m) a b, (([] : List WriteD), ()))))))))))
      (fun i hi s hs => by
        have g1 := wrap_succ (i := i) (by unfold BIG; omega)
        have g2 := fitV_get hf hi
        have g3 : decide (0 ≤ b[i].1 ∧ b[i].1 < ((s.1.1.length : Nat) : Int)) = true := decide_eq_true (by rw [hs.1.2]; exact g2)
        have g3' : decide (0 ≤ b[i].1 ∧ b[i].1 < ((s.2.1.length : Nat) : Int)) = true := decide_eq_true (by rw [hs.2]; exact g2)
        have g4 : nth s.1.1 (Int.toNat b[i].1) = some (s.1.1[Int.toNat b[i].1]'(by rw [hs.1.2]; omega)) := List.getElem?_eq_getElem _
        have g4' : nth s.2.1 (Int.toNat b[i].1) = some (s.2.1[Int.toNat b[i].1]'(by rw [hs.2]; omega)) := List.getElem?_eq_getElem _
        have g5 := u64_n (i := i) (by unfold BIG; omega)
        have g6 : decide (((i : Nat) : Int) < 0) = false := decide_eq_false (by omega)
        have g7 : stepD (fun i => bitE i m) s.1 b[i] = (if bitE i m = true then s.1.1.set b[i].1.toNat b[i].2.1 else s.1.1, i + 1) := by simp only [stepD, hs.1.1]
        have g8 : stepD (fun _ => true) s.2 b[i] = (s.2.1.set b[i].1.toNat b[i].2.1, s.2.2 + 1) := by simp only [stepD, if_true]
        rw [g7, g8]
        have g9 : nth b i = some b[i] := nth_get hi
        by_cases hm : 0 ≤ m
        · have q8 : decide (m ≥ 0) = true := decide_eq_true hm
          simp only [f7_L0, Out.eval, lt_t hi, inr_t hi, g9, Option.bind_some, cond_true, g1, g3, g3', g4, g4', g5, g6, q8, bitE, Int.toNat_natCast, Bool.true_and]
          cases hb : (IntKind.i64.wrap (((BitVec.ofInt (IntKind.bits IntKind.i64) (Int.fdiv m (2 ^ (min i (IntKind.bits IntKind.i64)))) &&& BitVec.ofInt (IntKind.bits IntKind.i64) (1 : Int)).toNat : Nat) : Int) == (1 : Int)) <;> rfl
        · have q8 : decide (m ≥ 0) = false := decide_eq_false hm
          simp only [f7_L0, Out.eval, lt_t hi, inr_t hi, g9, Option.bind_some, cond_true, g1, g3', g4', q8, Int.toNat_natCast, bitE_not hm]
          rfl)
      (fun s hs => by simp [f7_L0, Out.eval])
      (fun i hi s hs => by
        refine ⟨⟨by simp [stepD, hs.1.1], ?_⟩, ?_⟩
        · unfold stepD; split <;> simp [hs.1.2]
        · simp [stepD, hs.2]) (by unfold BIG; omega) ((a, 0), (a, 0)) ⟨⟨rfl, rfl⟩, rfl⟩
    rw [List.nil_append]
    refine (eval_get_some this).trans ?_
    rw [foldl_pair]
    have w1 : eqStrsV (applyV (fun i => bitE i m) a b) ((b.foldl (stepD fun i => bitE i m) (a, 0)).1) = true := eqStrsV_self _
    have w2 : eqStrsV (applyV (fun _ => true) a b) ((b.foldl (stepD fun _ => true) (a, 0)).1) = true := eqStrsV_self _
    simp only [Out.eval, w1, w2, t2, t3, eqStrsV_self, Option.bind_some]
    rfl
  · have t1 : fallV a b m = some ([], []) := by unfold fallV; rw [if_neg h]
    have t3 : flushV a b = some ([], []) := by unfold flushV; rw [if_neg h]
    refine (eval_get_some t1).trans ?_
    rw [eval_ite_t (by simp [h])]
    simp [Out.eval, t3]

theorem f7_own : ownKnob Try.prog.godebug = none := by kernel_rfl
set_option maxRecDepth 100000 in
theorem f7_contract (H : Type) (enc : TypeId × Value → H) (W : World) (base : Nat) (args : Array Value) (ds gs : List (DataW H)) (before : List MemPlace)
    (hval : ∀ (j : Nat) t v, Try.f7.params[j]? = some t → args[j]? = some v → Value.okWide Try.prog W .any base t v)
    (hW : DataW.Whole enc Try.prog Try.f7.params.toList Rows.fnDiskSpec.vars false W args.toList ds gs before) :
    Calls Try.prog 7 args W fun e W' => ∃ v, e = .returned v ∧ Rows.fnDiskSpec.post enc Try.prog Try.f7 false true false false W args v W' := by
  have hW' := hW
  obtain ⟨p, q, hA0, hV, rfl, _, _⟩ := hW
  have hA : DataW.TrodAll enc Try.prog W 0 (fun _ => true) true [58] args.toList ds p := hA0
  have hlt := hW'.lt
  obtain ⟨rfl, rfl⟩ := trodVars_none hV
  simp only [List.append_nil] at hW' hlt
  have hlen : ds.length = 1 := (trodAll_length hA).2
  obtain ⟨d0, e0⟩ := List.length_eq_one_iff.1 hlen
  subst e0
  have hu : Try.prog.underlying 4 = some .bool := by kernel_rfl
  refine (law_calls (ts := [(.sl (.int .u8))]) (tids := [58]) (f := 7) (lend := k7.lend) (F := k7.F) k7_ok (parsB_ok (by kernel_rfl)) (fun x hw => ?_) (b0 := base) (fun j t v ht hv => hval j t v ?_ hv) hA).mono fun e W' ⟨he, hg, hs⟩ => ?_
  · exact ⟨_, rfl⟩
  · rw [← ht, Try.params7]; first | rfl | simp
  · subst he
    exact ⟨_, rfl, post_of_same (pa := p) (pv := []) hW' (fun _ _ _ => trodAll_mk1 (shut_bool hu true)) (fun sp hsp => trodAll_stays (by kernel_rfl) hs (by kernel_rfl) hA hlt hsp) (fun _ _ => rfl) (by simp) (hg.frame _) hg.2.1 (ok_one (by kernel_rfl) rfl (okWide_bool_mk hu true))⟩
set_option maxRecDepth 100000 in
theorem f7_lifted (os : Os) (started : os.Started) (H : Type) (enc : TypeId × Value → H) :
    ReturnsInHanded {} Try.checked os 7 .any (Rows.fnDiskSpec.pre6 enc Try.prog Try.f7 Rows.fnDiskRow.domain false) (Rows.fnDiskSpec.post enc Try.prog Try.f7 false true false false) := by
  refine returnsInHanded_of_change (C := Try.checked) f7_own started (by kernel_rfl) Try.func7
    (ChangeSpec.witness6 (enc := enc) (C := Try.checked) false ⟨#[], #[.slice none 0 0], []⟩ 8 (by kernel_rfl) (by kernel_rfl) (by kernel_rfl) (by kernel_rfl)) ?_
  intro W base args ds gs before hval hW _ _
  exact f7_contract H enc W base args ds gs before hval hW
theorem f7_closed : joinedFacts Try.prog 7 Try.f7 Rows.fnDiskSpec Rows.fnDiskRow = true := by
  unfold joinedFacts
  rw [mayEnter_ok, lifts_ok, make_ok]
  kernel_rfl
theorem f7_said : Rows.FnDiskSaid :=
  OpenClaim.holds_of_wide 7 Try.f7 rfl rfl rfl rfl rfl rfl rfl ⟨rfl, rfl, rfl, rfl, rfl⟩ rfl rfl rfl rfl rfl (by kernel_rfl) Try.func7 f7_closed
    (of_decide_eq_true (by kernel_rfl)) (by unfold Func.isWrapper; first | (rw [if_pos (by decide +kernel)]; kernel_rfl) | (rw [if_neg (by decide +kernel)]; exact ⟨rfl, rfl⟩))
    (fun os started H enc _ => f7_lifted os started H enc)
end Go.Proofs.Ytjcinikojcfebaa.Dm
namespace Go.Proofs.Ytjcinikojcfebaa
theorem fnDisk_said : Rows.FnDiskSaid := Dm.f7_said
end Go.Proofs.Ytjcinikojcfebaa
namespace Go.Proofs.Ytjcinikojcfebaa.Dm

end Go.Proofs.Ytjcinikojcfebaa.Dm
