/- Functions of the program, and what they compute. -/
import Derived.Test.YtjcinikojcfebaaA17
import Derived.Test.YtjcinikojcfebaaFacts
import Derived.Test.YtjcinikojcfebaaRows
import Derived.ChangeCalls
namespace Go.Proofs.Ytjcinikojcfebaa.Dm
open Go Go.ChangeShapes Go.WideShapes Go.ChangeAt Go.RowKit

abbrev f22_S0 := (List (Int) × Int × Unit) × (List ((Int × List Int × Unit)) × List ((Int × List UInt8 × Unit)) × List (List UInt8) × Unit)
def f22_L0 (x : f22_S0) : Out (Round f22_S0 ((Unit) × (List ((Int × List Int × Unit)) × List ((Int × List UInt8 × Unit)) × List (List UInt8) × Unit)) Empty) :=
 .ite (decide (x.1.2.1 < ((List.length x.2.2.1 : Nat) : Int)))
 (.get (atV x.1.1 x.1.2.1) fun y1 =>
 .ite ((2 : Int) == 0)
 .fail
 (.ite (((Int.tmod y1 (2 : Int)) == (0 : Int)))
 (.ite (decide (0 ≤ x.1.2.1 ∧ x.1.2.1 < ((List.length x.2.2.1 : Nat) : Int)))
 (.get (nth x.2.2.1 (Int.toNat x.1.2.1)) fun y2 =>
 .ite (decide (0 ≤ x.1.2.1 ∧ x.1.2.1 < ((List.length x.2.2.1 : Nat) : Int)))
 (.get (nth x.2.2.1 (Int.toNat x.1.2.1)) fun y3 =>
 .ite (decide (0 ≤ y2.1 ∧ y2.1 < ((List.length x.2.2.2.1 : Nat) : Int)))
 (.get (nth x.2.2.2.1 (Int.toNat y2.1)) fun y4 =>
 .ret (.again ((x.1.1, (IntKind.i64.wrap (x.1.2.1 + (1 : Int))), ()), (x.2.1, x.2.2.1, (List.set x.2.2.2.1 (Int.toNat y2.1) y3.2.1), ()))))
 .fail)
 .fail)
 .fail)
 (.ret (.again ((x.1.1, (IntKind.i64.wrap (x.1.2.1 + (1 : Int))), ()), (x.2.1, x.2.2.1, x.2.2.2.1, ()))))))
 (.ret (.out ((), (x.2.1, x.2.2.1, x.2.2.2.1, ()))))
def f22_tree (a0 : List Int) : Out (((Bool × Unit) × Unit) × (Unit × Unit)) :=
 .ite (bigV a0)
 (.ret (((true, ()), ()), ((), ())))
 (.get (k110_V a0) fun y1 =>
 .ite ((!((mountV y1.1.1.1).2.2.2 == (mountV y1.1.1.1).2.2.2)) == false)
 (.ite (((mountV y1.1.1.1).2.2.1 != (mountV y1.1.1.1).2.2.1))
 (.ret (((false, ()), ()), ((), ())))
 (.ite (!(mountV y1.1.1.1).2.2.2)
 (.ite (((((List.length (mountV y1.1.1.1).1 : Nat) : Int) == (0 : Int))) == true)
 (.ret (((((((List.length (mountV y1.1.1.1).2.1 : Nat) : Int) == (0 : Int))), ()), ()), ((), ())))
 (.ret (((false, ()), ()), ((), ()))))
 (.ite (decide (List.length ([] : List (List UInt8)) + List.length y1.1.1.1 ≤ LIM))
 (.get (iter1 f22_L0 FUEL ((a0, (0 : Int), ()), ((mountV y1.1.1.1).1, (mountV y1.1.1.1).2.1, (([] : List (List UInt8)) ++ y1.1.1.1), ()))) fun y2 =>
 .ite ((mountV y2.2.2.2.1).2.2.2 == true)
 (.ite ((eqFilesV y2.2.1 (mountV y2.2.2.2.1).1) == true)
 (.ret (((((((List.length (mountV y2.2.2.2.1).2.1 : Nat) : Int) == ((List.length y2.2.2.1 : Nat) : Int))), ()), ()), ((), ())))
 (.ret (((false, ()), ()), ((), ()))))
 (.ret (((false, ()), ()), ((), ()))))
 .fail)))
 (.ret (((false, ()), ()), ((), ()))))
def f22_A : Nat → Option LoopAnn := fun n => annOf [(0, { head := { t := [.ro (.int .u8) (some 0), .dead, .dead, .dead, .srf 64000000, .srf 64000001, .dead, .dead, .dead, .dead, .dead, .dead, .srf 64000002, .i .i64, .dead, .dead, .dead, .dead, .dead, .dead, .dead, .dead, .dead, .dead, .dead, .dead, .dead, .dead, .dead, .dead, .dead, .dead, .dead, .dead, .dead, .dead, .dead, .dead, .dead, .dead, .dead, .dead, .dead, .dead, .dead, .dead, .dead, .dead, .dead, .dead, .dead, .dead, .dead, .dead, .dead, .dead, .dead, .dead, .dead, .dead, .dead, .dead, .dead, .dead, .dead, .dead, .dead, .dead, .dead, .dead, .dead, .dead, .dead, .dead, .dead, .dead, .dead, .dead, .dead, .dead, .dead, .dead, .dead, .dead, .dead, .dead, .dead, .dead, .dead, .dead, .dead, .dead, .dead, .dead, .dead, .dead, .dead, .dead, .dead, .dead], v := [(64000000, .arr (.st (.cons (.int .i64) (.cons (.sl (.int .i64)) .nil)))), (64000001, .arr (.st (.cons (.int .i64) (.cons .str .nil)))), (64000002, .arr .str)] }, out := { t := [.dead, .dead, .dead, .dead, .srf 64000256, .srf 64000257, .dead, .dead, .dead, .dead, .dead, .dead, .srf 64000258, .dead, .dead, .dead, .dead, .dead, .dead, .dead, .dead, .dead, .dead, .dead, .dead, .dead, .dead, .dead, .dead, .dead, .dead, .dead, .dead, .dead, .dead, .dead, .dead, .dead, .dead, .dead, .dead, .dead, .dead, .dead, .dead, .dead, .dead, .dead, .dead, .dead, .dead, .dead, .dead, .dead, .dead, .dead, .dead, .dead, .dead, .dead, .dead, .dead, .dead, .dead, .dead, .dead, .dead, .dead, .dead, .dead, .dead, .dead, .dead, .dead, .dead, .dead, .dead, .dead, .dead, .dead, .dead, .dead, .dead, .dead, .dead, .dead, .dead, .dead, .dead, .dead, .dead, .dead, .dead, .dead, .dead, .dead, .dead, .dead, .dead, .dead], v := [(64000256, .arr (.st (.cons (.int .i64) (.cons (.sl (.int .i64)) .nil)))), (64000257, .arr (.st (.cons (.int .i64) (.cons .str .nil)))), (64000258, .arr .str)] }, ret := none })] n
def true1c (_ : List Int) : Bool := true
def k22 : Con := { f := 22, lend := true, its := [⟨false, false, [.ro (.int .u8)]⟩], lay := [none], rs := [⟨false, false, [.b]⟩], F := fun x => .ret ((((true1c x.1.1), ()), ()), ((), ())) }
theorem f22_eq (x : itemsD k22.its) : bodyOut (cxOf [k45, k110, k111, k112, k92, k94]) (f22_A) (codeOf Try.f22) k22.its k22.lay Try.f22.ntmps k22.rs [.tmp 2] x = f22_tree x.1.1 := by kernel_rfl
theorem f22_ok (hr : ∀ x : (List Int × Unit) × Unit, itemsWF k22.its x → (f22_tree x.1.1).eval = (k22.F x).eval) : k22.Ok Try.prog :=
  con_fn [k45, k110, k111, k112, k92, k94] ⟨k45_ok, k110_ok, k111_ok, k112_ok, k92_ok, k94_ok, trivial⟩ (by kernel_rfl) (codeOf_eq (by kernel_rfl)) (by kernel_rfl) (by kernel_rfl) (by kernel_rfl) f22_eq fun x hw _ hy => (hr x hw).trans hy
theorem k22_ok : k22.Ok Try.prog := by
  refine f22_ok fun x hw => ?_
  obtain ⟨⟨c, _⟩, _⟩ := x
  have hc : c.length ≤ BIG := hw.1.1.1
  show (f22_tree c).eval = some (((true, ()), ()), ((), ()))
  unfold f22_tree
  by_cases hb : bigV c = true
  · rw [eval_ite_t hb]; rfl
  rw [eval_ite_f (by simpa using hb)]
  obtain ⟨y, e, hy⟩ := drawMount_tot hc
  refine (eval_get_some e).trans ?_
  generalize y.1.1.1 = l at hy ⊢
  cases hm : mountP l with
  | none =>
    rw [mountV_none hm]; rfl
  | some r =>
    obtain ⟨f, o, q⟩ := r
    have hp := mountP_ok hm
    rw [mountV_some hm]
    have l1 : decide (([] : List Str).length + l.length ≤ LIM) = true := decide_eq_true (by rw [LIM_eq]; simp; omega)
    refine (eval_ite_t (by simp)).trans ((eval_ite_f (by simp)).trans ((eval_ite_f rfl).trans ((eval_ite_t l1).trans ?_)))
    rw [List.nil_append]
    have hat : ∀ i : Nat, atV c ((i : Nat) : Int) = some ((atV c ((i : Nat) : Int)).getD 0) := fun i => by
      obtain ⟨v, e, _⟩ := at_some c (i := ((i : Nat) : Int)) (by omega)
      rw [e]; rfl
    have lp := foldl_loop (f := f22_L0) (fun (s : List Str × Nat) i => s.2 = i ∧ s.1.length = 7) (stepD fun i => Int.tmod ((atV c ((i : Nat) : Int)).getD 0) 2 == 0) o
      (fun s i => ((c, ((i : Nat) : Int), ()), f, o, s.1, ())) (fun s => ((), f, o, s.1, ()))
      (fun i hi s hs => by
        have w1 := wrap_succ (i := i) (by unfold BIG; omega)
        have hx := (hp.2.2.2.2.1 o[i] (List.getElem_mem hi)).1
        have w4 : decide (0 ≤ o[i].1 ∧ o[i].1 < ((s.1.length : Nat) : Int)) = true := decide_eq_true (by rw [hs.2]; omega)
        have w5 : nth s.1 (Int.toNat o[i].1) = some (s.1[Int.toNat o[i].1]'(by omega)) := List.getElem?_eq_getElem _
        have w6 : stepD (fun i => Int.tmod ((atV c ((i : Nat) : Int)).getD 0) 2 == 0) s o[i] = (if (Int.tmod ((atV c ((i : Nat) : Int)).getD 0) 2 == 0) = true then s.1.set o[i].1.toNat o[i].2.1 else s.1, i + 1) := by simp only [stepD, hs.1]
        rw [w6]
        refine (eval_ite_t (lt_t hi)).trans ((eval_get_some (hat i)).trans ?_)
        cases hq : (Int.tmod ((atV c ((i : Nat) : Int)).getD 0) 2 == (0 : Int))
        · rw [← w1]
          exact (eval_ite_f rfl).trans ((eval_ite_f rfl).trans rfl)
        · rw [← w1]
          exact (eval_ite_f rfl).trans ((eval_ite_t rfl).trans ((eval_ite_t (inr_t hi)).trans ((eval_get_some (nth_get hi)).trans ((eval_ite_t (inr_t hi)).trans ((eval_get_some (nth_get hi)).trans ((eval_ite_t w4).trans ((eval_get_some w5).trans rfl))))))))
      (fun s _ => by simp [f22_L0, Out.eval]) (fun i hi s hs => ⟨by simp [stepD, hs.1], by unfold stepD; simp only; split <;> simp [hs.2]⟩) (by unfold BIG; omega) (l, 0) ⟨rfl, hp.1⟩
    refine (eval_get_some lp).trans ?_
    have e3 : mountP (o.foldl (stepD fun i => Int.tmod ((atV c ((i : Nat) : Int)).getD 0) 2 == 0) (l, 0)).1 = some (f, o, q) := by
      obtain ⟨X, log, rfl, hX⟩ : ∃ X log, l = X ++ [log] ∧ X.length = 6 := ⟨l.take 6, l.getD 6 [], by
        have : l.drop 6 = [l.getD 6 []] := by
          rw [List.drop_eq_getElem_cons (by omega), List.drop_of_length_le (by omega), List.getD_eq_getElem?_getD, List.getElem?_eq_getElem (by omega)]; rfl
        rw [← this, List.take_append_drop], by rw [List.length_take]; omega⟩
      have hin : ∀ x ∈ o, 0 ≤ x.1 ∧ x.1 < ((X.length : Nat) : Int) := fun x hx => by have := (hp.2.2.2.2.1 x hx).1; omega
      show mountP (applyV (fun i => Int.tmod ((atV c ((i : Nat) : Int)).getD 0) 2 == 0) (X ++ [log]) o) = _
      rw [applyV_tail _ hin]
      have hlog : logP log = some (q, o) := by
        unfold mountP at hm
        rw [if_pos hp.1, getD_last hX, take_first hX] at hm
        cases hl : logP log with
        | none => rw [hl] at hm; exact nomatch hm
        | some z =>
          obtain ⟨q', o'⟩ := z
          rw [hl] at hm
          simp only at hm
          split at hm
          · exact nomatch hm
          · simp only [Option.some.injEq, Prod.mk.injEq] at hm
            obtain ⟨_, rfl, rfl⟩ := hm
            rfl
      refine mount_of (by rw [applyV_len]; exact hX) hlog hp.2.1 ?_
      rw [putAll_part]
      have := hp.2.2.2.2.2
      rw [take_first hX] at this
      exact this
    have e1 : eqFilesV f f = true := decide_eq_true rfl
    dsimp only
    rw [mountV_some e3]
    refine (eval_ite_t rfl).trans ((eval_ite_t (by rw [e1]; rfl)).trans ?_)
    simp only [Out.eval]
    have : (((o.length : Nat) : Int) == ((o.length : Nat) : Int)) = true := by simp
    rw [this]

theorem f22_own : ownKnob Try.prog.godebug = none := by kernel_rfl
set_option maxRecDepth 100000 in
theorem f22_contract (H : Type) (enc : TypeId × Value → H) (W : World) (base : Nat) (args : Array Value) (ds gs : List (DataW H)) (before : List MemPlace)
    (hval : ∀ (j : Nat) t v, Try.f22.params[j]? = some t → args[j]? = some v → Value.okWide Try.prog W .any base t v)
    (hW : DataW.Whole enc Try.prog Try.f22.params.toList Rows.fnMountSpec.vars false W args.toList ds gs before) :
    Calls Try.prog 22 args W fun e W' => ∃ v, e = .returned v ∧ Rows.fnMountSpec.post enc Try.prog Try.f22 false true false false W args v W' := by
  have hW' := hW
  obtain ⟨p, q, hA0, hV, rfl, _, _⟩ := hW
  have hA : DataW.TrodAll enc Try.prog W 0 (fun _ => true) true [58] args.toList ds p := hA0
  have hlt := hW'.lt
  obtain ⟨rfl, rfl⟩ := trodVars_none hV
  simp only [List.append_nil] at hW' hlt
  have hlen : ds.length = 1 := (trodAll_length hA).2
  obtain ⟨d0, e0⟩ := List.length_eq_one_iff.1 hlen
  subst e0
  have hu : Try.prog.underlying 4 = some .bool := by kernel_rfl
  refine (law_calls (ts := [(.sl (.int .u8))]) (tids := [58]) (f := 22) (lend := k22.lend) (F := k22.F) k22_ok (parsB_ok (by kernel_rfl)) (fun x hw => ?_) (b0 := base) (fun j t v ht hv => hval j t v ?_ hv) hA).mono fun e W' ⟨he, hg, hs⟩ => ?_
  · exact ⟨_, rfl⟩
  · rw [← ht, Try.params22]; first | rfl | simp
  · subst he
    exact ⟨_, rfl, post_of_same (pa := p) (pv := []) hW' (fun _ _ _ => trodAll_mk1 (shut_bool hu true)) (fun sp hsp => trodAll_stays (by kernel_rfl) hs (by kernel_rfl) hA hlt hsp) (fun _ _ => rfl) (by simp) (hg.frame _) hg.2.1 (ok_one (by kernel_rfl) rfl (okWide_bool_mk hu true))⟩
set_option maxRecDepth 100000 in
theorem f22_lifted (os : Os) (started : os.Started) (H : Type) (enc : TypeId × Value → H) :
    ReturnsInHanded {} Try.checked os 22 .any (Rows.fnMountSpec.pre6 enc Try.prog Try.f22 Rows.fnMountRow.domain false) (Rows.fnMountSpec.post enc Try.prog Try.f22 false true false false) := by
  refine returnsInHanded_of_change (C := Try.checked) f22_own started (by kernel_rfl) Try.func22
    (ChangeSpec.witness6 (enc := enc) (C := Try.checked) false ⟨#[], #[.slice none 0 0], []⟩ 8 (by kernel_rfl) (by kernel_rfl) (by kernel_rfl) (by kernel_rfl)) ?_
  intro W base args ds gs before hval hW _ _
  exact f22_contract H enc W base args ds gs before hval hW
theorem f22_closed : joinedFacts Try.prog 22 Try.f22 Rows.fnMountSpec Rows.fnMountRow = true := by
  unfold joinedFacts
  rw [mayEnter_ok, lifts_ok, make_ok]
  kernel_rfl
theorem f22_said : Rows.FnMountSaid :=
  OpenClaim.holds_of_wide 22 Try.f22 rfl rfl rfl rfl rfl rfl rfl ⟨rfl, rfl, rfl, rfl, rfl⟩ rfl rfl rfl rfl rfl (by kernel_rfl) Try.func22 f22_closed
    (of_decide_eq_true (by kernel_rfl)) (by unfold Func.isWrapper; first | (rw [if_pos (by decide +kernel)]; kernel_rfl) | (rw [if_neg (by decide +kernel)]; exact ⟨rfl, rfl⟩))
    (fun os started H enc _ => f22_lifted os started H enc)
end Go.Proofs.Ytjcinikojcfebaa.Dm
namespace Go.Proofs.Ytjcinikojcfebaa
theorem fnMount_said : Rows.FnMountSaid := Dm.f22_said
end Go.Proofs.Ytjcinikojcfebaa
namespace Go.Proofs.Ytjcinikojcfebaa.Dm


end Go.Proofs.Ytjcinikojcfebaa.Dm
