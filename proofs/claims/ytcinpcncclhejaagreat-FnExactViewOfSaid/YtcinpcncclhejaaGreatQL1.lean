/- Functions of the program, and what they compute. -/
import Derived.Test.YtcinpcncclhejaaGreatQ6
import Derived.Test.YtcinpcncclhejaaGreatFacts
import Derived.Test.YtcinpcncclhejaaGreatRows
import Derived.ChangeCalls
namespace Go.Proofs.YtcinpcncclhejaaGreat.Dm
open Go Go.ChangeShapes Go.WideShapes Go.ChangeAt Go.RowKit

theorem view_small (next tick : Int) (progs : List (List InsD)) (ps : List ProcD) (os : List OpenD) (pipes : List PipeD) (files : List FileD) (rd out : List Int) (v : Int) :
    (viewV next tick progs ps os pipes files rd out v).2.1.length ≤ 12 ∧ (viewV next tick progs ps os pipes files rd out v).2.2.1.length ≤ 12 ∧ (viewV next tick progs ps os pipes files rd out v).2.2.2.1.length ≤ 12 := by
  unfold viewV
  split
  · rename_i hu
    unfold viewU
    cases hx : idxBy procKey ps v with
    | none => simp
    | some i =>
      have hi := idxBy_lt hx
      have := proc_small hu (List.getElem_mem hi)
      simp only [List.getElem?_eq_getElem hi]
      omega
  · simp
def f3_tree (a0 : Int) (a1 : Int) (a2 : List (List InsD)) (a3 : List ProcD) (a4 : List OpenD) (a5 : List CpuD) (a6 : List CpuD) (a7 : List Int) (a8 : List Int) (a9 : Int) : Out (((Bool × Unit) × Unit) × (Unit × Unit × Unit)) :=
 .get (szUnixV a0 a1 a2 a3 a4 a5 a6 a7 a8 (1048576 : Int)) fun y1 =>
 .ite (decide (y1 < (0 : Int)))
 (.ret (((true, ()), ()), ((), (), ())))
 (.get (toUnixV a0 a1 a2 a3 a4 a5 a6 a7 a8) fun y2 =>
 .get (viewOfV y2.1 y2.2.1 y2.2.2.1 y2.2.2.2.1 y2.2.2.2.2.1 y2.2.2.2.2.2.1 y2.2.2.2.2.2.2.1 y2.2.2.2.2.2.2.2.1 y2.2.2.2.2.2.2.2.2 a9) fun y3 =>
 .get (toUnixV a0 a1 a2 a3 a4 a5 a6 a7 a8) fun y4 =>
 .get (viewOfV y4.1 y4.2.1 y4.2.2.1 y4.2.2.2.1 y4.2.2.2.2.1 y4.2.2.2.2.2.1 y4.2.2.2.2.2.2.1 y4.2.2.2.2.2.2.2.1 y4.2.2.2.2.2.2.2.2 a9) fun y5 =>
 .ite ((!(eqViewV y5.1 y5.2.1 y5.2.2.1 y5.2.2.2.1 y3.1 y3.2.1 y3.2.2.1 y3.2.2.2.1)) == false)
 (.ite (!(y5.2.2.2.2 == y3.2.2.2.2))
 (.ret (((false, ()), ()), ((), (), ())))
 (.get (toUnixV a0 a1 a2 a3 a4 a5 a6 a7 a8) fun y6 =>
 .ite (!(eqUnixV y4.1 y4.2.1 y4.2.2.1 y4.2.2.2.1 y4.2.2.2.2.1 y4.2.2.2.2.2.1 y4.2.2.2.2.2.2.1 y4.2.2.2.2.2.2.2.1 y4.2.2.2.2.2.2.2.2 y6.1 y6.2.1 y6.2.2.1 y6.2.2.2.1 y6.2.2.2.2.1 y6.2.2.2.2.2.1 y6.2.2.2.2.2.2.1 y6.2.2.2.2.2.2.2.1 y6.2.2.2.2.2.2.2.2))
 (.ret (((false, ()), ()), ((), (), ())))
 (.get (markUnixV y4.1 y4.2.1 y4.2.2.1 y4.2.2.2.1 y4.2.2.2.2.1 y4.2.2.2.2.2.1 y4.2.2.2.2.2.2.1 y4.2.2.2.2.2.2.2.1 y4.2.2.2.2.2.2.2.2 (1 : Int)) fun y7 =>
 .ite ((decide (y7.1 < (0 : Int))) == false)
 (.ite ((!(eqViewV y5.1 y5.2.1 y5.2.2.1 y5.2.2.2.1 y3.1 y3.2.1 y3.2.2.1 y3.2.2.2.1)) == false)
 (.ite (!(y5.2.2.2.2 == y3.2.2.2.2))
 (.ret (((false, ()), ()), ((), (), ())))
 (.get (markViewV y5.1 y5.2.1 y5.2.2.1 y5.2.2.2.1 (1 : Int)) fun y8 =>
 .get (heldViewV y5.1 y8.2.1 y8.2.2.1 y8.2.2.2 (1 : Int)) fun y9 =>
 .ite (decide (y9 < (0 : Int)))
 (.ret (((false, ()), ()), ((), (), ())))
 (.ite ((y9 != y8.1))
 (.ret (((false, ()), ()), ((), (), ())))
 (.get (toUnixV a0 a1 a2 a3 a4 a5 a6 a7 a8) fun y10 =>
 .get (viewOfV y10.1 y10.2.1 y10.2.2.1 y10.2.2.2.1 y10.2.2.2.2.1 y10.2.2.2.2.2.1 y10.2.2.2.2.2.2.1 y10.2.2.2.2.2.2.2.1 y10.2.2.2.2.2.2.2.2 a9) fun y11 =>
 .ite ((!(eqViewV y11.1 y11.2.1 y11.2.2.1 y11.2.2.2.1 y3.1 y3.2.1 y3.2.2.1 y3.2.2.2.1)) == false)
 (.ite (!(y11.2.2.2.2 == y3.2.2.2.2))
 (.ret (((false, ()), ()), ((), (), ())))
 (.get (heldViewV y5.1 y8.2.1 y8.2.2.1 y8.2.2.2 (1 : Int)) fun y12 =>
 .ite (decide (y12 < (0 : Int)))
 (.ret (((false, ()), ()), ((), (), ())))
 (.ite ((y12 != y8.1))
 (.ret (((false, ()), ()), ((), (), ())))
 (.ret (((true, ()), ()), ((), (), ()))))))
 (.ret (((false, ()), ()), ((), (), ())))))))
 (.ret (((false, ()), ()), ((), (), ()))))
 (.ret (((false, ()), ()), ((), (), ()))))))
 (.ret (((false, ()), ()), ((), (), ()))))
def true10 (_ _ : Int) (_ : List (List InsD)) (_ : List ProcD) (_ : List OpenD) (_ : List PipeD) (_ : List FileD) (_ _ : List Int) (_ : Int) : Bool := true
def k3 : Con := { f := 3, lend := true, its := [⟨false, true, [.i .i64, .i .i64, .ro (.sl (.st (.cons (.int .i64) (.cons (.int .i64) (.cons (.int .i64) (.cons (.int .i64) .nil)))))), .ro (.st (.cons (.int .i64) (.cons (.int .i64) (.cons (.int .i64) (.cons (.int .i64) (.cons (.st (.cons (.int .i64) (.cons (.sl (.int .i64)) .nil))) (.cons (.sl (.int .i64)) (.cons (.sl (.int .i64)) (.cons (.int .i64) (.cons (.int .i64) .nil)))))))))), .ro (.st (.cons (.int .i64) (.cons (.int .i64) (.cons (.int .i64) (.cons (.int .i64) (.cons (.int .i64) .nil)))))), .ro (.st (.cons (.int .i64) (.cons (.sl (.int .i64)) .nil))), .ro (.st (.cons (.int .i64) (.cons (.sl (.int .i64)) .nil))), .ro (.int .i64), .ro (.int .i64)]⟩, ⟨false, false, [.i .i64]⟩], lay := [none, none], rs := [⟨false, false, [.b]⟩], F := fun x => .ret ((((true10 x.1.1 x.1.2.1 x.1.2.2.1 x.1.2.2.2.1 x.1.2.2.2.2.1 x.1.2.2.2.2.2.1 x.1.2.2.2.2.2.2.1 x.1.2.2.2.2.2.2.2.1 x.1.2.2.2.2.2.2.2.2.1 x.2.1.1), ()), ()), ((), (), ())) }
theorem f3_eq (x : itemsD k3.its) : bodyOut (cxOf [k7, k9, k8, k10, k11, k12, k13, k14, k15]) (fun _ => none) (codeOf Tryz.f3) k3.its k3.lay Tryz.f3.ntmps k3.rs [.tmp 4] x = f3_tree x.1.1 x.1.2.1 x.1.2.2.1 x.1.2.2.2.1 x.1.2.2.2.2.1 x.1.2.2.2.2.2.1 x.1.2.2.2.2.2.2.1 x.1.2.2.2.2.2.2.2.1 x.1.2.2.2.2.2.2.2.2.1 x.2.1.1 := by kernel_rfl
theorem f3_ok (hr : ∀ x : UnixD × (Int × Unit) × Unit, itemsWF k3.its x → (f3_tree x.1.1 x.1.2.1 x.1.2.2.1 x.1.2.2.2.1 x.1.2.2.2.2.1 x.1.2.2.2.2.2.1 x.1.2.2.2.2.2.2.1 x.1.2.2.2.2.2.2.2.1 x.1.2.2.2.2.2.2.2.2.1 x.2.1.1).eval = (k3.F x).eval) : k3.Ok Tryz.prog :=
  con_fn [k7, k9, k8, k10, k11, k12, k13, k14, k15] ⟨k7_ok, k9_ok, k8_ok, k10_ok, k11_ok, k12_ok, k13_ok, k14_ok, k15_ok, trivial⟩ (by kernel_rfl) (codeOf_eq (by kernel_rfl)) (by kernel_rfl) (by kernel_rfl) (by kernel_rfl) f3_eq fun x hw _ hy => (hr x hw).trans hy
theorem k3_ok : k3.Ok Tryz.prog := by
  refine f3_ok fun x hw => ?_
  obtain ⟨⟨a0, a1, a2, a3, a4, a5, a6, a7, a8, _⟩, ⟨a9, _⟩, _⟩ := x
  have l2 : List.length a2 ≤ BIG := hw.1.1.1
  have l3 : List.length a3 ≤ BIG := hw.1.2.1.1
  have l4 : List.length a4 ≤ BIG := hw.1.2.2.1.1
  have l5 : List.length a5 ≤ BIG := hw.1.2.2.2.1.1
  have l6 : List.length a6 ≤ BIG := hw.1.2.2.2.2.1.1
  have l7 : List.length a7 ≤ BIG := hw.1.2.2.2.2.2.1.1
  have l8 : List.length a8 ≤ BIG := hw.1.2.2.2.2.2.2.1.1
  show (f3_tree a0 a1 a2 a3 a4 a5 a6 a7 a8 a9).eval = some ((((true10 a0 a1 a2 a3 a4 a5 a6 a7 a8 a9), ()), ()), ((), (), ()))
  unfold f3_tree
  have e1 : szUnixV a0 a1 a2 a3 a4 a5 a6 a7 a8 1048576 = some (if ((szcUnix (a0, a1, a2, a3, a4, a5, a6, a7, a8, ()) : Nat) : Int) ≤ 1048576 then 1048576 - ((szcUnix (a0, a1, a2, a3, a4, a5, a6, a7, a8, ()) : Nat) : Int) else -1) := szP_in (by decide) (by decide)
  rw [eval_get_some e1]
  by_cases q : ((szcUnix (a0, a1, a2, a3, a4, a5, a6, a7, a8, ()) : Nat) : Int) ≤ 1048576
  case neg => rw [if_neg q, eval_ite_t (by decide)]; rfl
  rw [if_pos q, eval_ite_f (decide_eq_false (by omega))]
  have hs : szcUnix (a0, a1, a2, a3, a4, a5, a6, a7, a8, ()) ≤ 1048576 := by omega
  have e2 : toUnixV a0 a1 a2 a3 a4 a5 a6 a7 a8 = some (a0, a1, a2, a3, a4, a5, a6, a7, a8) := toP_in hs
  have hr : a7.length ≤ 1048576 := by
    have : szcUnix (a0, a1, a2, a3, a4, a5, a6, a7, a8, ()) = szcInsSS a2 + szcProcS a3 + szcOpenS a4 + szcCpuS a5 + szcCpuS a6 + szcIntS a7 + szcIntS a8 := rfl
    have h2 : szcIntS a7 = a7.length := rfl
    omega
  have hL : a7.length ≤ LIM := by rw [LIM_eq]; omega
  have hsm := view_small a0 a1 a2 a3 a4 a5 a6 a7 a8 a9
  have e3 : viewOfV a0 a1 a2 a3 a4 a5 a6 a7 a8 a9 = some (viewV a0 a1 a2 a3 a4 a5 a6 a7 a8 a9) := if_pos hL
  generalize viewV a0 a1 a2 a3 a4 a5 a6 a7 a8 a9 = v at hsm e3
  obtain ⟨pc, regs, mem, fds, ok⟩ := v
  have hc : szcUnix (a0, a1, a2, a3, a4, a5, a6, a7, a8, ()) = szcInsSS a2 + szcProcS a3 + szcOpenS a4 + szcCpuS a5 + szcCpuS a6 + szcIntS a7 + szcIntS a8 := rfl
  have g1 := mkcInsSS_le a2
  have g2 := mkcProcS_le a3
  have g3 := mkcOpenS_le a4
  have g4 := mkcCpuS_le a5
  have g5 := mkcCpuS_le a6
  have g6 := mkcIntS_le a7
  have g7 := mkcIntS_le a8
  have v1 := mkcIntS_le regs
  have v2 := mkcIntS_le mem
  have v3 := mkcIntS_le fds
  have z1 : szcIntS regs = regs.length := rfl
  have z2 : szcIntS mem = mem.length := rfl
  have z3 : szcIntS fds = fds.length := rfl
  simp only at hsm
  obtain ⟨n, z, e5⟩ : ∃ (n : Nat) (z : List (List InsD) × List ProcD × List OpenD × List CpuD × List CpuD × List Int × List Int), markUnixV a0 a1 a2 a3 a4 a5 a6 a7 a8 1 = some ((1 : Int) + ((n : Nat) : Int), z) := ⟨_, _, mkP_in (by decide) (by omega)⟩
  have e6 : markViewV pc regs mem fds 1 = some ((1 : Int) + ((mkcIntS regs + mkcIntS mem + mkcIntS fds : Nat) : Int), mkdIntS 1 regs, mkdIntS (1 + (mkcIntS regs : Nat)) mem, mkdIntS (1 + (mkcIntS regs : Nat) + (mkcIntS mem : Nat)) fds) := mkP_in (by decide) (by omega)
  have e7 : heldViewV pc (mkdIntS 1 regs) (mkdIntS (1 + (mkcIntS regs : Nat)) mem) (mkdIntS (1 + (mkcIntS regs : Nat) + (mkcIntS mem : Nat)) fds) 1 = some ((1 : Int) + ((mkcIntS regs + mkcIntS mem + mkcIntS fds : Nat) : Int)) := by
    unfold heldViewV
    simp only [mkcIntS_d, mkdIntS_d, decide_true, Bool.and_self]
    exact hdP_in (by decide) (by omega)
  have n1 : ¬ (1 : Int) + ((n : Nat) : Int) < 0 := by omega
  have n2 : ¬ (1 : Int) + ((mkcIntS regs + mkcIntS mem + mkcIntS fds : Nat) : Int) < 0 := by omega
  generalize (1 : Int) + ((mkcIntS regs + mkcIntS mem + mkcIntS fds : Nat) : Int) = m at e6 e7 n2
  have s1 : eqViewV pc regs mem fds pc regs mem fds = true := decide_eq_true rfl
  have s2 : eqUnixV a0 a1 a2 a3 a4 a5 a6 a7 a8 a0 a1 a2 a3 a4 a5 a6 a7 a8 = true := decide_eq_true rfl
  simp [Out.eval, e2, e3, e5, e6, e7, n1, n2, s1, s2, true10]

theorem f3_own : ownKnob Tryz.prog.godebug = none := by kernel_rfl
set_option maxRecDepth 100000 in
theorem f3_contract (H : Type) (enc : TypeId × Value → H) (W : World) (base : Nat) (args : Array Value) (ds gs : List (DataW H)) (before : List MemPlace)
    (hval : ∀ (j : Nat) t v, Tryz.f3.params[j]? = some t → args[j]? = some v → Value.okWide Tryz.prog W .any base t v)
    (hW : DataW.Whole enc Tryz.prog Tryz.f3.params.toList Rows.fnExactViewOfSpec.vars false W args.toList ds gs before) :
    Calls Tryz.prog 3 args W fun e W' => ∃ v, e = .returned v ∧ Rows.fnExactViewOfSpec.post enc Tryz.prog Tryz.f3 false true false false W args v W' := by
  have hW' := hW
  obtain ⟨p, q, hA0, hV, rfl, _, _⟩ := hW
  have hA : DataW.TrodAll enc Tryz.prog W 0 (fun _ => true) true [29, 3] args.toList ds p := hA0
  have hlt := hW'.lt
  obtain ⟨rfl, rfl⟩ := trodVars_none hV
  simp only [List.append_nil] at hW' hlt
  have hlen : ds.length = 2 := (trodAll_length hA).2
  rcases ds with _ | ⟨d0, _ | ⟨d1, _ | ⟨d2, dr⟩⟩⟩ <;> first | (simp at hlen; done) | skip
  have hu : Tryz.prog.underlying 4 = some .bool := by kernel_rfl
  refine (law_calls (ts := [(.st (.cons (.int .i64) (.cons (.int .i64) (.cons (.sl (.sl (.st (.cons (.int .i64) (.cons (.int .i64) (.cons (.int .i64) (.cons (.int .i64) .nil))))))) (.cons (.sl (.st (.cons (.int .i64) (.cons (.int .i64) (.cons (.int .i64) (.cons (.int .i64) (.cons (.st (.cons (.int .i64) (.cons (.sl (.int .i64)) .nil))) (.cons (.sl (.int .i64)) (.cons (.sl (.int .i64)) (.cons (.int .i64) (.cons (.int .i64) .nil))))))))))) (.cons (.sl (.st (.cons (.int .i64) (.cons (.int .i64) (.cons (.int .i64) (.cons (.int .i64) (.cons (.int .i64) .nil))))))) (.cons (.sl (.st (.cons (.int .i64) (.cons (.sl (.int .i64)) .nil)))) (.cons (.sl (.st (.cons (.int .i64) (.cons (.sl (.int .i64)) .nil)))) (.cons (.sl (.int .i64)) (.cons (.sl (.int .i64)) .nil)))))))))), (.int .i64)]) (tids := [29, 3]) (f := 3) (lend := k3.lend) (F := k3.F) k3_ok (parsB_ok (by kernel_rfl)) (fun x hw => ?_) (b0 := base) (fun j t v ht hv => hval j t v ?_ hv) hA).mono fun e W' ⟨he, hg, hs⟩ => ?_
  · exact ⟨_, rfl⟩
  · rw [← ht, Tryz.params3]; first | rfl | simp
  · subst he
    exact ⟨_, rfl, post_of_kept (pa := p) (pv := []) hW' (fun _ _ _ => trodAll_mk1 (shut_bool hu true)) (fun sp hsp => trodAll_stays (by kernel_rfl) hs (by kernel_rfl) hA hlt hsp) (fun _ _ => rfl) (by simp) hg (ok_one (by kernel_rfl) rfl (okWide_bool_mk hu true))⟩
set_option maxRecDepth 100000 in
theorem f3_lifted (os : Os) (started : os.Started) (H : Type) (enc : TypeId × Value → H) :
    ReturnsInHanded {} Tryz.checked os 3 .any (Rows.fnExactViewOfSpec.pre6 enc Tryz.prog Tryz.f3 Rows.fnExactViewOfRow.domain false) (Rows.fnExactViewOfSpec.post enc Tryz.prog Tryz.f3 false true false false) := by
  refine returnsInHanded_of_change (C := Tryz.checked) f3_own started (by kernel_rfl) Tryz.func3
    (ChangeSpec.witness6 (enc := enc) (C := Tryz.checked) false ⟨#[], #[.agg #[.int .i64 0, .int .i64 0, .slice none 0 0, .slice none 0 0, .slice none 0 0, .slice none 0 0, .slice none 0 0, .slice none 0 0, .slice none 0 0], .int .i64 0], []⟩ 8 (by kernel_rfl) (by kernel_rfl) (by kernel_rfl) (by kernel_rfl)) ?_
  intro W base args ds gs before hval hW _ _
  exact f3_contract H enc W base args ds gs before hval hW
theorem f3_closed : joinedFacts Tryz.prog 3 Tryz.f3 Rows.fnExactViewOfSpec Rows.fnExactViewOfRow = true := by
  unfold joinedFacts
  rw [mayEnter_ok, lifts_ok, make_ok]
  kernel_rfl
theorem f3_said : Rows.FnExactViewOfSaid :=
  OpenClaim.holds_of_wide 3 Tryz.f3 rfl rfl rfl rfl rfl rfl rfl ⟨rfl, rfl, rfl, rfl, rfl⟩ rfl rfl rfl rfl rfl (by kernel_rfl) Tryz.func3 f3_closed
    (of_decide_eq_true (by kernel_rfl)) (by unfold Func.isWrapper; first | (rw [if_pos (by decide +kernel)]; kernel_rfl) | (rw [if_neg (by decide +kernel)]; exact ⟨rfl, rfl⟩))
    (fun os started H enc _ => f3_lifted os started H enc)
end Go.Proofs.YtcinpcncclhejaaGreat.Dm
namespace Go.Proofs.YtcinpcncclhejaaGreat
theorem fnExactViewOf_said : Rows.FnExactViewOfSaid := Dm.f3_said
end Go.Proofs.YtcinpcncclhejaaGreat
namespace Go.Proofs.YtcinpcncclhejaaGreat.Dm

end Go.Proofs.YtcinpcncclhejaaGreat.Dm
