/- Functions of the program, and what they compute. -/
import Derived.Test.YtcpjdjgipmjhdaaGreatDoorQ81
import Derived.Test.YtcpjdjgipmjhdaaGreatDoorQ22
import Derived.Test.YtcpjdjgipmjhdaaGreatDoorFacts
import Derived.Test.YtcpjdjgipmjhdaaGreatDoorRows
import Derived.Test.YtcpjdjgipmjhdaaGreatDoorCards
import Derived.Test.YtcpjdjgipmjhdaaGreatDoorTie
import Derived.ChangeCalls
import Derived.SevenTiedAt
import Derived.LaidLaws
import Derived.Lib.LaidTab
import Derived.Lib.LaidIn
import Derived.Stop.LaidErr
import Derived.Handed
import Derived.Stop.Joined
namespace Go.Proofs.YtcpjdjgipmjhdaaGreatDoor.Dm
open Go Go.ChangeShapes Go.WideShapes Go.ChangeAt Go.RowKit
/-! ## The library's tables that the rows list -/
noncomputable def cellsOf : DataW Unit → Array Value
  | .agg l => (l.map fun | .lit (.int k z) => Value.int k z | _ => Go.undef).toArray
  | _ => #[]
noncomputable def layTab (d : DataW Unit) : Obj → Obj
  | .cells _ t frozen => .cells (cellsOf d) t frozen
  | o => o
noncomputable def laidWorld (os : Os) : World :=
  let w0 := World.holding Tryz.prog os ⟨#[], #[], []⟩
  { w0 with heap := ((w0.heap.modify 0 (layTab Rows.laid_internal_strconv_uint64pow10)).modify 1 (layTab Rows.laid_math_bits_deBruijn32tab)).modify 2 (layTab Rows.laid_math_bits_deBruijn64tab) }
theorem gTab : Tryz.prog.globalNamed "internal/strconv.uint64pow10" = some 0 := by kernel_rfl
theorem tabs_of {W : World} {l : List (String × DataW Unit)} (hL : laidMet Tryz.prog (("internal/strconv.uint64pow10", Lib.tabData .u64 Lib.pow10Tab) :: l) W) : Tabs (fun b => b < W.heap.size) W := by
  have ht : Lib.TabIs Tryz.prog W "internal/strconv.uint64pow10" .u64 Lib.pow10Tab := Lib.tabIs_of_head (t := 164) (e := 151) (n := 20) gTab (by kernel_rfl) (by kernel_rfl) (by kernel_rfl) (by kernel_rfl) (by kernel_rfl) hL
  intro p hp
  have hp : p = (0, (Lib.pow10Tab.map fun z => Value.int .u64 z).toArray) := by simpa [tabs] using hp
  subst hp
  unfold Lib.TabIs World.var? at ht
  rw [gTab] at ht
  simp only [Option.bind_some] at ht
  cases h : W.heap[0]? with
  | none => rw [h] at ht; cases ht
  | some o =>
    rw [h] at ht
    cases o with
    | cells cs E n =>
      obtain rfl := Option.some.inj ht
      exact ⟨(Array.getElem?_eq_some_iff.1 h).1, E, n, rfl⟩
    | _ => cases ht
def f3_tree (a0 : Int) (a1 : Int) (a2 : List (List InsD)) (a3 : List ProcD) (a4 : List OpenD) (a5 : List CpuD) (a6 : List CpuD) (a7 : List Int) (a8 : List Int) : Out (((Bool × Unit) × Unit) × (Unit × Unit)) :=
 .get (szUnixV a0 a1 a2 a3 a4 a5 a6 a7 a8 (1048576 : Int)) fun y1 =>
 .ite (decide (y1 < (0 : Int)))
 (.ret (((true, ()), ()), ((), ())))
 (.get (toUnixV a0 a1 a2 a3 a4 a5 a6 a7 a8) fun y2 =>
 .get (lsofP y2.1 y2.2.1 y2.2.2.1 y2.2.2.2.1 y2.2.2.2.2.1 y2.2.2.2.2.2.1 y2.2.2.2.2.2.2.1 y2.2.2.2.2.2.2.2.1 y2.2.2.2.2.2.2.2.2) fun y3 =>
 .get (toUnixV a0 a1 a2 a3 a4 a5 a6 a7 a8) fun y4 =>
 .get (lsofP y4.1 y4.2.1 y4.2.2.1 y4.2.2.2.1 y4.2.2.2.2.1 y4.2.2.2.2.2.1 y4.2.2.2.2.2.2.1 y4.2.2.2.2.2.2.2.1 y4.2.2.2.2.2.2.2.2) fun y5 =>
 .ite (y5 != y3)
 (.ret (((false, ()), ()), ((), ())))
 (.get (toUnixV a0 a1 a2 a3 a4 a5 a6 a7 a8) fun y6 =>
 .ite (!(eqUnixV y4.1 y4.2.1 y4.2.2.1 y4.2.2.2.1 y4.2.2.2.2.1 y4.2.2.2.2.2.1 y4.2.2.2.2.2.2.1 y4.2.2.2.2.2.2.2.1 y4.2.2.2.2.2.2.2.2 y6.1 y6.2.1 y6.2.2.1 y6.2.2.2.1 y6.2.2.2.2.1 y6.2.2.2.2.2.1 y6.2.2.2.2.2.2.1 y6.2.2.2.2.2.2.2.1 y6.2.2.2.2.2.2.2.2))
 (.ret (((false, ()), ()), ((), ())))
 (.ret (((true, ()), ()), ((), ())))))
def true9 (_ _ : Int) (_ : List (List InsD)) (_ : List ProcD) (_ : List OpenD) (_ : List PipeD) (_ : List FileD) (_ _ : List Int) : Bool := true
def k3 : Con := { f := 3, lend := true, its := [⟨false, true, [.i .i64, .i .i64, .ro (.sl tyN), .ro tyP, .ro tyO, .ro tyF, .ro tyF, .ro (.int .i64), .ro (.int .i64)]⟩], lay := [none], rs := [⟨false, false, [.b]⟩], F := fun x => .ret ((((true9 x.1.1 x.1.2.1 x.1.2.2.1 x.1.2.2.2.1 x.1.2.2.2.2.1 x.1.2.2.2.2.2.1 x.1.2.2.2.2.2.2.1 x.1.2.2.2.2.2.2.2.1 x.1.2.2.2.2.2.2.2.2.1), ()), ()), ((), ())) }
theorem f3_eq (x : itemsD k3.its) : bo [k5, k7, k6, k8, k9] (fun _ => none) Tryz.f3 k3 [.tmp 2] x = f3_tree x.1.1 x.1.2.1 x.1.2.2.1 x.1.2.2.2.1 x.1.2.2.2.2.1 x.1.2.2.2.2.2.1 x.1.2.2.2.2.2.2.1 x.1.2.2.2.2.2.2.2.1 x.1.2.2.2.2.2.2.2.2.1 := by kernel_rfl
theorem f3_ok (hr : ∀ x : UnixD × Unit, itemsWF k3.its x → (f3_tree x.1.1 x.1.2.1 x.1.2.2.1 x.1.2.2.2.1 x.1.2.2.2.2.1 x.1.2.2.2.2.2.1 x.1.2.2.2.2.2.2.1 x.1.2.2.2.2.2.2.2.1 x.1.2.2.2.2.2.2.2.2.1).eval = (k3.F x).eval) : k3.Ok Tryz.prog := con_fn [k5, k7, k6, k8, k9] ⟨k5_ok, k7_ok, k6_ok, k8_ok, k9_ok, trivial⟩ f3_eq fun x hw _ hy => (hr x hw).trans hy
theorem k3_ok : k3.Ok Tryz.prog := by
  refine f3_ok fun x hw => ?_
  obtain ⟨⟨a0, a1, a2, a3, a4, a5, a6, a7, a8, _⟩, _⟩ := x
  have l2 : List.length a2 ≤ BIG := hw.1.1.1
  have l3 : List.length a3 ≤ BIG := hw.1.2.1.1
  have l4 : List.length a4 ≤ BIG := hw.1.2.2.1.1
  have l5 : List.length a5 ≤ BIG := hw.1.2.2.2.1.1
  have l6 : List.length a6 ≤ BIG := hw.1.2.2.2.2.1.1
  have l7 : List.length a7 ≤ BIG := hw.1.2.2.2.2.2.1.1
  have l8 : List.length a8 ≤ BIG := hw.1.2.2.2.2.2.2.1.1
  show (f3_tree a0 a1 a2 a3 a4 a5 a6 a7 a8).eval = some ((((true9 a0 a1 a2 a3 a4 a5 a6 a7 a8), ()), ()), ((), ()))
  unfold f3_tree
  have e1 : szUnixV a0 a1 a2 a3 a4 a5 a6 a7 a8 1048576 = some (if ((szcUnix (a0, a1, a2, a3, a4, a5, a6, a7, a8, ()) : Nat) : Int) ≤ 1048576 then 1048576 - ((szcUnix (a0, a1, a2, a3, a4, a5, a6, a7, a8, ()) : Nat) : Int) else -1) := szP_in (by decide) (by decide)
  rw [eval_get_some e1]
  by_cases q : ((szcUnix (a0, a1, a2, a3, a4, a5, a6, a7, a8, ()) : Nat) : Int) ≤ 1048576
  case neg => rw [if_neg q, eval_ite_t (by decide)]; rfl
  rw [if_pos q, eval_ite_f (decide_eq_false (by omega))]
  have hs : szcUnix (a0, a1, a2, a3, a4, a5, a6, a7, a8, ()) ≤ 1048576 := by omega
  have e2 : toUnixV a0 a1 a2 a3 a4 a5 a6 a7 a8 = some (a0, a1, a2, a3, a4, a5, a6, a7, a8) := toP_in hs
  have hr : a7.length ≤ 1048576 := by
    have : szcUnix (a0, a1, a2, a3, a4, a5, a6, a7, a8, ()) = szcInsSS a2 + szcProcS a3 + szcOpenS a4 + szcCpuS a5 + szcCpuS a6 + szcIntS a7 + szcIntS a8 := rfl
    have h2 : szcIntS a7 = a7.length := rfl
    omega
  have hL : a7.length ≤ LIM := by rw [LIM_eq]; omega
  have e3 : lsofP a0 a1 a2 a3 a4 a5 a6 a7 a8 = some (lsofV a0 a1 a2 a3 a4 a5 a6 a7 a8) := if_pos hL
  have s2 : eqUnixV a0 a1 a2 a3 a4 a5 a6 a7 a8 a0 a1 a2 a3 a4 a5 a6 a7 a8 = true := decide_eq_true rfl
  simp [Out.eval, e2, e3, s2, true9]
theorem f3_own : ownKnob Tryz.prog.godebug = none := by kernel_rfl
set_option maxRecDepth 100000 in
theorem f3_contract (H : Type) (enc : TypeId × Value → H) (W : World) (base : Nat) (args : Array Value) (ds gs : List (DataW H)) (before : List MemPlace)
    (hval : ∀ (j : Nat) t v, Tryz.f3.params[j]? = some t → args[j]? = some v → Value.okWide Tryz.prog W .any base t v)
    (hL : laidMetH Tryz.prog Rows.fnExactLsofRow.laid W) (hW : DataW.Whole enc Tryz.prog Tryz.f3.params.toList Rows.fnExactLsofSpec.vars false W args.toList ds gs before) :
    Calls Tryz.prog 3 args W fun e W' => ∃ v, e = .returned v ∧ Rows.fnExactLsofSpec.post enc Tryz.prog Tryz.f3 false true false false W args v W' := by
  have hW' := hW
  obtain ⟨p, q, hA0, hV, rfl, _, _⟩ := hW
  have hA : DataW.TrodAll enc Tryz.prog W 0 (fun _ => true) true [29] args.toList ds p := hA0
  have hlt := hW'.lt
  obtain ⟨rfl, rfl⟩ := trodVars_none hV
  simp only [List.append_nil] at hW' hlt
  have hlen : ds.length = 1 := (trodAll_length hA).2
  obtain ⟨d0, e0⟩ := List.length_eq_one_iff.1 hlen
  subst e0
  have hu : Tryz.prog.underlying 4 = some .bool := by kernel_rfl
  refine (law_calls (ts := [(.st (.cons (.int .i64) (.cons (.int .i64) (.cons (.sl (.sl tyN)) (.cons (.sl tyP) (.cons (.sl tyO) (.cons (.sl tyF) (.cons (.sl tyF) (.cons (.sl (.int .i64)) (.cons (.sl (.int .i64)) .nil))))))))))]) (tids := [29]) (f := 3) (lend := k3.lend) (F := k3.F) k3_ok (parsB_ok (by kernel_rfl)) (fun x hw => ?_) (b0 := base) (fun j t v ht hv => hval j t v ?_ hv) hA (tabs_of (l := []) (show laidMet Tryz.prog _ _ from hL).tail.tail)).mono fun e W' ⟨he, hg, hs⟩ => ?_
  · exact ⟨_, rfl⟩
  · rw [← ht, Tryz.params3]; first | rfl | simp
  · subst he
    exact ⟨_, rfl, post_of_kept (pa := p) (pv := []) hW' (fun _ _ _ => trodAll_mk1 (shut_bool hu true)) (fun sp hsp => trodAll_stays (by kernel_rfl) hs (by kernel_rfl) hA hlt hsp) (fun _ _ => rfl) (by simp) hg (ok_one (by kernel_rfl) rfl (okWide_bool_mk hu true))⟩
set_option maxRecDepth 100000 in
theorem f3_met (os : Os) : laidMetH Tryz.prog Rows.fnExactLsofRow.laid ((laidWorld os).forCall (fun _ _ => 0) ⟨#[], #[.agg #[.int .i64 0, .int .i64 0, .slice none 0 0, .slice none 0 0, .slice none 0 0, .slice none 0 0, .slice none 0 0, .slice none 0 0, .slice none 0 0]], []⟩).memory :=
  show laidMet Tryz.prog Rows.fnExactLsofRow.laid _ from (LaidIn.of_run [0, 1, 2] 8 (by kernel_rfl) (by kernel_rfl) (by kernel_rfl) (by kernel_rfl)).met
set_option maxRecDepth 100000 in
theorem f3_lifted (os : Os) (started : os.Started) (H : Type) (enc : TypeId × Value → H) :
    ReturnsInHanded {} Tryz.checked os 3 .any (fun w args => (Rows.fnExactLsofSpec.pre enc Tryz.prog Tryz.f3 [] false w args ∧ laidMetH Tryz.prog Rows.fnExactLsofRow.laid w) ∧ sizedMet enc Tryz.prog Tryz.f3 (OpenSpec.ofChange Rows.fnExactLsofSpec) false w args)
      (Rows.fnExactLsofSpec.post enc Tryz.prog Tryz.f3 false true false false) := by
  refine returnsInHanded_of_change_and (C := Tryz.checked) (X := fun w _ => laidMetH Tryz.prog Rows.fnExactLsofRow.laid w) (fun _ _ _ hh h => h.of_heap hh) f3_own started (by kernel_rfl) Tryz.func3
    (ChangeSpec.witness_at (enc := enc) (C := Tryz.checked) (os := os) (X := fun w _ => laidMetH Tryz.prog Rows.fnExactLsofRow.laid w) false (laidWorld os) #[.agg #[.int .i64 0, .int .i64 0, .slice none 0 0, .slice none 0 0, .slice none 0 0, .slice none 0 0, .slice none 0 0, .slice none 0 0, .slice none 0 0]] 8 rfl (by kernel_rfl) (by kernel_rfl) (by kernel_rfl) (by kernel_rfl) (by kernel_rfl) (f3_met os)) ?_
  intro W base args ds gs before hval hW _ _ hL _
  exact f3_contract H enc W base args ds gs before hval hL hW
theorem f3_closed : joinedFacts Tryz.prog 3 Tryz.f3 Rows.fnExactLsofSpec Rows.fnExactLsofRow = true := by
  unfold joinedFacts
  rw [mayEnter_ok, lifts_ok, make_ok]
  kernel_rfl
theorem f3_said : Rows.FnExactLsofSaid :=
  OpenClaim.holds_of_wide 3 Tryz.f3 rfl rfl rfl rfl rfl rfl rfl ⟨rfl, rfl, rfl, rfl, rfl⟩ rfl rfl rfl rfl rfl (by kernel_rfl) Tryz.func3 f3_closed
    (of_decide_eq_true (by kernel_rfl)) (by unfold Func.isWrapper; first | (rw [if_pos (by decide +kernel)]; kernel_rfl) | (rw [if_neg (by decide +kernel)]; exact ⟨rfl, rfl⟩))
    (fun os started H enc _ => f3_lifted os started H enc)
end Go.Proofs.YtcpjdjgipmjhdaaGreatDoor.Dm
namespace Go.Proofs.YtcpjdjgipmjhdaaGreatDoor
theorem fnExactLsof_row : Rows.FnExactLsofSaid := Dm.f3_said
set_option maxRecDepth 100000 in
theorem fnExactLsof_said : Rows.FnExactLsofCardSaid :=
  Claim7.holds_tied_plain_at .later [] [.data, .data, .data] true (true, "3beab2df882e5d0dc92ef637e2006a91d4b0f15a2177210b464fa71bcc243d4c") false
    fnExactLsof_row (fun _ h => by cases h) (by kernel_rfl) (fun _ h => by cases h) fnExactLsof_row_tie rfl ⟨rfl, rfl⟩ (by kernel_rfl) rfl
    (fun f fn hf hfn => by
      obtain rfl : f = 3 := Option.some.inj ((show Tryz.prog.funcNamed "loop.example/g00781/laws.FnExactLsof" = some 3 by kernel_rfl).symm.trans hf) |>.symm
      obtain rfl : fn = Tryz.f3 := (Option.some.inj (Tryz.func3.symm.trans hfn)).symm
      exact ⟨by kernel_rfl, fun j t ht => by
        rw [Tryz.params3] at ht
        have h3 : t = 29 := by
          rcases j with _ | j
          · simpa using ht.symm
          · simp at ht
        subst h3
        exact (show Tryz.prog.wantsStandIn 29 = false by kernel_rfl)⟩)
    (by kernel_rfl)
end Go.Proofs.YtcpjdjgipmjhdaaGreatDoor
namespace Go.Proofs.YtcpjdjgipmjhdaaGreatDoor.Dm
end Go.Proofs.YtcpjdjgipmjhdaaGreatDoor.Dm
