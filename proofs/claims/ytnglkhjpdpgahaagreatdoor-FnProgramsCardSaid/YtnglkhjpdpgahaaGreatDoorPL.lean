/- Functions of the program, and what they compute. -/
import Derived.Test.YtnglkhjpdpgahaaGreatDoorP14
import Derived.Test.YtnglkhjpdpgahaaGreatDoorP15
import Derived.Test.YtnglkhjpdpgahaaGreatDoorFacts
import Derived.Test.YtnglkhjpdpgahaaGreatDoorRows
import Derived.Test.YtnglkhjpdpgahaaGreatDoorCards
import Derived.Test.YtnglkhjpdpgahaaGreatDoorTie
import Derived.ChangeCalls
import Derived.SevenTiedAt
import Derived.LaidLaws
import Derived.Lib.LaidTab
import Derived.Stop.LaidErr
import Derived.Handed
import Derived.Lay
import Derived.Shelf.Vars
import Derived.MakeChecks
namespace Go.Proofs.YtnglkhjpdpgahaaGreatDoor.Dm
open Go Go.ChangeShapes Go.WideShapes Go.ChangeAt Go.RowKit
/-! ## The library's variables that the rows list -/
theorem retsAndShaped {H : Type} {enc : TypeId × Value → H} {a : Assume} {C : Checked} {os : Os} {f : FuncId} {fn : Func} {s : ChangeSpec} {conds : List PathCond} {apart fresh handsOn again : Bool} {X : World → Array Value → Prop}
    (hX : ∀ (w w' : World) (args : Array Value), w.heap = w'.heap → X w args → X w' args)
    (own : ownKnob C.prog.godebug = none) (started : os.Started) (noInit : C.prog.inits.idxOf? f = none) (hfn : C.prog.funcs[f]? = some fn)
    (witness : ∃ (w : World) (tape : Tape) (i : Input), w.os = os ∧ (w.forCall tape i).Shaped C.prog ∧ i.vars = [] ∧ Input.okWide C.prog (w.forCall tape i) .any w.heap.size f i ∧
      ((s.pre enc C.prog fn conds apart (w.forCall tape i).memory i.args ∧ X (w.forCall tape i).memory i.args) ∧ sizedMet enc C.prog fn (OpenSpec.ofChange s) apart (w.forCall tape i).memory i.args) ∧ a.holds C.prog (lone (Frame.enter C.prog f i.args .normal) [] (w.forCall tape i)))
    (contract : ∀ (W : World) (base : Nat) (args : Array Value) (ds gs : List (DataW H)) (before : List MemPlace),
      (∀ (j : Nat) t v, fn.params[j]? = some t → args[j]? = some v → Value.okWide C.prog W .any base t v) →
      DataW.Whole enc C.prog fn.params.toList s.vars apart W args.toList ds gs before → X W args → W.ShapedOpen C.prog →
      Calls C.prog f args W fun e W' => ∃ v, e = .returned v ∧ s.post enc C.prog fn apart fresh handsOn again W args v W') :
    ReturnsInHanded a C os f .any (fun w args => (s.pre enc C.prog fn conds apart w args ∧ X w args) ∧ sizedMet enc C.prog fn (OpenSpec.ofChange s) apart w args) (s.post enc C.prog fn apart fresh handsOn again) := by
  refine returnsInHanded_of_calls own started noInit witness ?_
  intro w tape i _ hsh _ hok hpre _
  obtain ⟨_, _, _, fn', hfn', _, _, _, _, hval⟩ := hok
  have e : fn' = fn := Option.some.inj (hfn'.symm.trans hfn)
  subst e
  obtain ⟨⟨⟨ds, gs, before, hw, _⟩, hx⟩, _⟩ := hpre
  have hw' := DataW.Whole.of_heap (w' := w.forCall tape i) (by rfl) hw
  refine (contract (w.forCall tape i) w.heap.size i.args ds gs before hval hw' (hX _ _ _ (by rfl) hx) hsh).mono fun e W' ⟨v, he, hp⟩ => ?_
  subst he
  exact ChangeSpec.post_blind hp
theorem star_name : "*" ++ "errors.errorString" = "*errors.errorString" := by decide
theorem row_err (u : TypeId) (h : Tryz.prog.typeName? 3 u = some "*errors.errorString") : u = 121 :=
  typeName_ptr_named (nm := "errors.errorString") (by rw [star_name]; kernel_rfl) (by kernel_rfl) (by decide) u (by rw [star_name]; exact h)
theorem err_of {W : World} {n : String} {g : Nat} {a : Addr} (hg : Tryz.prog.globalNamed n = some g) (h : W.var? Tryz.prog n = some #[.iface 121 (.pointer (some a))]) : g < W.heap.size ∧ ∃ o, W.heap[g]? = some o ∧ IsErr o := by
  unfold World.var? at h
  rw [hg] at h
  simp only [Option.bind_some] at h
  cases q : W.heap[g]? with
  | none => rw [q] at h; cases h
  | some o =>
    rw [q] at h
    cases o with
    | cells cs E n =>
      obtain rfl := Option.some.inj h
      exact ⟨(Array.getElem?_eq_some_iff.1 q).1, _, rfl, _, _, E, n, rfl, rfl, .inr ⟨_, _, rfl⟩⟩
    | _ => cases h
theorem tab_of {W : World} {n : String} {g : Nat} {k : IntKind} {zs : List Int} (hg : Tryz.prog.globalNamed n = some g) (h : Lib.TabIs Tryz.prog W n k zs) : g < W.heap.size ∧ ∃ o, W.heap[g]? = some o ∧ IsTab (zs.map fun z => Value.int k z).toArray o := by
  unfold Lib.TabIs World.var? at h
  rw [hg] at h
  simp only [Option.bind_some] at h
  cases q : W.heap[g]? with
  | none => rw [q] at h; cases h
  | some o =>
    rw [q] at h
    cases o with
    | cells cs E n =>
      obtain rfl := Option.some.inj h
      exact ⟨(Array.getElem?_eq_some_iff.1 q).1, _, rfl, E, n, rfl⟩
    | _ => cases h
theorem int_of {W : World} {g : Nat} {k : IntKind} (h : ∃ m, W.cell? ⟨g, 0, none⟩ = some (.int k m)) : g < W.heap.size ∧ ∃ o, W.heap[g]? = some o ∧ IsInt k o := by
  obtain ⟨m, h⟩ := h
  unfold World.cell? at h
  simp only at h
  cases q : W.heap[g]? with
  | none => rw [q] at h; cases h
  | some o =>
    rw [q] at h
    cases o with
    | cells cs E n => exact ⟨(Array.getElem?_eq_some_iff.1 q).1, _, rfl, m, cs, E, n, rfl, by simpa using h⟩
    | _ => simp at h
theorem gS : Tryz.prog.globalNamed "strconv.ErrSyntax" = some 1 := by kernel_rfl
theorem gR : Tryz.prog.globalNamed "strconv.ErrRange" = some 2 := by kernel_rfl
theorem gT : Tryz.prog.globalNamed "internal/strconv.uint64pow10" = some 3 := by kernel_rfl
theorem u79 : Tryz.prog.underlying 79 = some (.interface #[("Error", 127)]) := by kernel_rfl
theorem tabs_of {W : World} {l : List (String × DataW Unit)} (hs : W.ShapedOpen Tryz.prog)
    (hL : laidMet Tryz.prog (("internal/strconv.uint64pow10", Rows.laid_internal_strconv_uint64pow10) :: ("unicode/utf8.acceptRanges", Rows.laid_unicode_utf8_acceptRanges) :: ("strconv.ErrRange", Rows.laid_strconv_ErrRange) :: ("strconv.ErrSyntax", Rows.laid_strconv_ErrSyntax) :: l) W) : Tabs (fun b => b < W.heap.size) W := by
  have h3 : Lib.TabIs Tryz.prog W "internal/strconv.uint64pow10" .u64 Lib.pow10Tab := Lib.tabIs_of_head (t := 108) (e := 96) (n := 20) gT (by kernel_rfl) (by kernel_rfl) (by kernel_rfl) (by kernel_rfl) (by kernel_rfl) hL
  obtain ⟨a2, s2, h2, _⟩ := laid_sentinel (nm := "*errors.errorString") (ti := 79) (tp := 121) (te := 123) (ts := 9) (f := ⟨"s", 9, 0, false, "", "errors", 0⟩) hL.tail.tail gR (by kernel_rfl) u79 row_err (by kernel_rfl) (by kernel_rfl) rfl rfl (by kernel_rfl) (by kernel_rfl) (by kernel_rfl)
  obtain ⟨a1, s1, h1, _⟩ := laid_sentinel (nm := "*errors.errorString") (ti := 79) (tp := 121) (te := 123) (ts := 9) (f := ⟨"s", 9, 0, false, "", "errors", 0⟩) hL.tail.tail.tail gS (by kernel_rfl) u79 row_err (by kernel_rfl) (by kernel_rfl) rfl rfl (by kernel_rfl) (by kernel_rfl) (by kernel_rfl)
  have h0 := cell_of_shapedOpen_int (g := 0) (t := 3) (zero := #[.int .i64 0]) (k := .i64) hs (of_decide_eq_true (by kernel_rfl)) (by kernel_rfl) (by kernel_rfl) (by kernel_rfl) (by kernel_rfl) (by kernel_rfl)
  intro p hp
  have hp : p = (0, IsInt .i64) ∨ p = (1, IsErr) ∨ p = (2, IsErr) ∨ p = (3, IsTab (Lib.pow10Tab.map fun z => Value.int .u64 z).toArray) := by simpa [tabs] using hp
  rcases hp with rfl | rfl | rfl | rfl
  · exact int_of h0
  · exact err_of gS h1
  · exact err_of gR h2
  · exact tab_of gT h3
def f3_tree (a0 : List Int) : Out (((Bool × Unit) × Unit) × (Unit × Unit)) :=
 .ite (bigV a0)
 (.ret (((true, ()), ()), ((), ())))
 (.get (k5_V a0) fun y1 =>
 .get (asmP (listingV y1.1.1.1)) fun y2 =>
 .ite ((!((readProgV (showProgV y1.1.1.1)).2 == (progOkV y1.1.1.1))) == false)
 (.ite ((readProgV (showProgV y1.1.1.1)).2 == true)
 (.ite ((!(eqInssV (readProgV (showProgV y1.1.1.1)).1 y1.1.1.1)) == false)
 (.ite (((y2.2 != (0 : Int))) == false)
 (.ite (!(eqInssV y2.1 y1.1.1.1))
 (.ret (((false, ()), ()), ((), ())))
 (.get (k12_V a0) fun y3 =>
 .get (asmP y3.1.1.1) fun y4 =>
 .get (asmP y3.1.1.1) fun y5 =>
 .get (asmP (listingV y4.1)) fun y6 =>
 .ite (((y4.2 == y5.2)) == true)
 (.ite (((y4.2 != (0 : Int))) == false)
 (.ite (((y6.2 == (0 : Int))) == true)
 (.ite ((eqInssV y6.1 y4.1) == true)
 (.ite ((progOkV y4.1) == true)
 (.ite (((y4.2 == (0 : Int))) == false)
 (.ret (((((((List.length y4.1 : Nat) : Int) == (0 : Int))), ()), ()), ((), ())))
 (.ret (((true, ()), ()), ((), ()))))
 (.ret (((false, ()), ()), ((), ()))))
 (.ret (((false, ()), ()), ((), ()))))
 (.ret (((false, ()), ()), ((), ()))))
 (.ite (((y4.2 == (0 : Int))) == false)
 (.ret (((((((List.length y4.1 : Nat) : Int) == (0 : Int))), ()), ()), ((), ())))
 (.ret (((true, ()), ()), ((), ())))))
 (.ret (((false, ()), ()), ((), ())))))
 (.ret (((false, ()), ()), ((), ()))))
 (.ret (((false, ()), ()), ((), ()))))
 (.get (k12_V a0) fun y7 =>
 .get (asmP y7.1.1.1) fun y8 =>
 .get (asmP y7.1.1.1) fun y9 =>
 .get (asmP (listingV y8.1)) fun y10 =>
 .ite (((y8.2 == y9.2)) == true)
 (.ite (((y8.2 != (0 : Int))) == false)
 (.ite (((y10.2 == (0 : Int))) == true)
 (.ite ((eqInssV y10.1 y8.1) == true)
 (.ite ((progOkV y8.1) == true)
 (.ite (((y8.2 == (0 : Int))) == false)
 (.ret (((((((List.length y8.1 : Nat) : Int) == (0 : Int))), ()), ()), ((), ())))
 (.ret (((true, ()), ()), ((), ()))))
 (.ret (((false, ()), ()), ((), ()))))
 (.ret (((false, ()), ()), ((), ()))))
 (.ret (((false, ()), ()), ((), ()))))
 (.ite (((y8.2 == (0 : Int))) == false)
 (.ret (((((((List.length y8.1 : Nat) : Int) == (0 : Int))), ()), ()), ((), ())))
 (.ret (((true, ()), ()), ((), ())))))
 (.ret (((false, ()), ()), ((), ())))))
 (.ret (((false, ()), ()), ((), ()))))
def trueP (_ : List Int) : Bool := true
def k3 : Con := { f := 3, lend := true, its := [⟨false, false, [.ro (.int .u8)]⟩], lay := [none], rs := [⟨false, false, [.b]⟩], F := fun x => .ret ((((trueP x.1.1), ()), ()), ((), ())) }
theorem f3_eq (x : itemsD k3.its) : bo [k4, k5, k7, k6, k9, k8, k10, k11, k12, k13] (fun _ => none) Tryz.f3 k3 [.tmp 2] x = f3_tree x.1.1 := by kernel_rfl
theorem f3_ok (hr : ∀ x : (List Int × Unit) × Unit, itemsWF k3.its x → (f3_tree x.1.1).eval = (k3.F x).eval) : k3.Ok Tryz.prog := con_fn [k4, k5, k7, k6, k9, k8, k10, k11, k12, k13] ⟨k4_ok, k5_ok, k7_ok, k6_ok, k9_ok, k8_ok, k10_ok, k11_ok, k12_ok, k13_ok, trivial⟩ f3_eq fun x hw _ hy => (hr x hw).trans hy
theorem eqInssV_self (p : List InsD) : eqInssV p p = true := decide_eq_true rfl
theorem listing_len (p : List InsD) : (listingV p).length ≤ 1000000 := by
  unfold listingV
  split
  · rename_i h
    have h1 := listT_len (prog_parts h).2
    have h2 := (prog_parts h).1
    omega
  · exact Nat.zero_le _
theorem asmP_list (p : List InsD) : asmP (listingV p) = some (asmV (listingV p)) := if_pos (listing_len p)
/-- The law's second half: what is assembled is listed as the same program. -/
theorem asm_goal (t : Str) (ht : t.length ≤ 1000000) : ∃ y6, asmP (listingV (asmV t).1) = some y6 ∧ ((asmV t).2 = 0 → y6.2 = 0 ∧ eqInssV y6.1 (asmV t).1 = true ∧ progOkV (asmV t).1 = true) ∧ ((asmV t).2 ≠ 0 → ((asmV t).1.length : Int) = 0) := by
  obtain ⟨h1, h2⟩ := asm_ok (t := t)
  refine ⟨_, asmP_list _, fun _ => ?_, fun h => by rw [h1 h]; rfl⟩
  rw [asm_listing h2]
  exact ⟨rfl, eqInssV_self _, h2⟩
theorem read_showV (p : List InsD) : (readProgV (showProgV p)).2 = progOkV p ∧ (progOkV p = true → (readProgV (showProgV p)).1 = p) := by
  unfold showProgV
  by_cases h : progOkV p = true
  · rw [if_pos h, read_show h, h]; exact ⟨rfl, fun _ => rfl⟩
  · rw [if_neg h, read_nil]
    exact ⟨by simpa using h, fun q => absurd q h⟩
theorem k3_ok : k3.Ok Tryz.prog := by
  refine f3_ok fun x hw => ?_
  obtain ⟨⟨a0, _⟩, _⟩ := x
  have l0 : List.length a0 ≤ BIG := hw.1.1.1
  show (f3_tree a0).eval = some ((((trueP a0), ()), ()), ((), ()))
  unfold f3_tree trueP
  by_cases hb : bigV a0 = true
  · rw [eval_ite_t hb]; rfl
  rw [eval_ite_f (by simpa using hb)]
  obtain ⟨p, hp, _⟩ := drawShow_tot l0
  obtain ⟨t, ht, hl⟩ := drawAsm_tot l0
  obtain ⟨y6, e6, g1, g2⟩ := asm_goal t.1.1.1 hl
  have e4 : asmP t.1.1.1 = some (asmV t.1.1.1) := if_pos hl
  obtain ⟨r1, r2⟩ := read_showV p.1.1.1
  rw [eval_get_some hp, eval_get_some (asmP_list _), eval_ite_t (by rw [r1]; simp)]
  have tail : ∀ {x : Out (((Bool × Unit) × Unit) × (Unit × Unit))}, x = (Out.ite (((asmV t.1.1.1).2 != (0 : Int)) == false) (Out.ite ((y6.2 == (0 : Int)) == true) (Out.ite (eqInssV y6.1 (asmV t.1.1.1).1 == true) (Out.ite (progOkV (asmV t.1.1.1).1 == true) (Out.ite (((asmV t.1.1.1).2 == (0 : Int)) == false) (.ret (((((((List.length (asmV t.1.1.1).1 : Nat) : Int) == (0 : Int))), ()), ()), ((), ()))) (.ret (((true, ()), ()), ((), ())))) (.ret (((false, ()), ()), ((), ())))) (.ret (((false, ()), ()), ((), ())))) (.ret (((false, ()), ()), ((), ())))) (Out.ite (((asmV t.1.1.1).2 == (0 : Int)) == false) (.ret (((((((List.length (asmV t.1.1.1).1 : Nat) : Int) == (0 : Int))), ()), ()), ((), ()))) (.ret (((true, ()), ()), ((), ()))))) → x.eval = some (((true, ()), ()), ((), ())) := by
    rintro _ rfl
    by_cases q : (asmV t.1.1.1).2 = 0
    · obtain ⟨h1, h2, h3⟩ := g1 q
      rw [q, h1, h2, h3]; rfl
    · have h1 := g2 q
      have q1 : ((asmV t.1.1.1).2 == (0 : Int)) = false := by simpa using q
      have q2 : ((asmV t.1.1.1).2 != (0 : Int)) = true := by simpa using q
      rw [q1, q2, h1]; rfl
  by_cases hok : progOkV p.1.1.1 = true
  · have e1 := r2 hok
    refine (eval_ite_t (by rw [r1, hok]; rfl)).trans ((eval_ite_t (by rw [e1, eqInssV_self]; rfl)).trans ?_)
    rw [asm_listing hok]
    refine (eval_ite_t rfl).trans ((eval_ite_f (by rw [eqInssV_self]; rfl)).trans ?_)
    refine (eval_get_some ht).trans ((eval_get_some e4).trans ((eval_get_some e4).trans ((eval_get_some e6).trans ((eval_ite_t (by simp)).trans ?_))))
    exact tail rfl
  · rw [eval_ite_f (by rw [r1]; simpa using hok)]
    refine (eval_get_some ht).trans ((eval_get_some e4).trans ((eval_get_some e4).trans ((eval_get_some e6).trans ((eval_ite_t (by simp)).trans ?_))))
    exact tail rfl
theorem f3_list {W : World} (h : laidMetH Tryz.prog Rows.fnProgramsRow.laid W) : laidMet Tryz.prog Rows.fnProgramsRow.laid W := by
  rw [MakeChecks.laidMetH_plain _ _ _ (by kernel_rfl)] at h
  exact h
theorem f3_own : ownKnob Tryz.prog.godebug = none := by kernel_rfl
set_option maxRecDepth 100000 in
theorem f3_contract (H : Type) (enc : TypeId × Value → H) (W : World) (base : Nat) (args : Array Value) (ds gs : List (DataW H)) (before : List MemPlace)
    (hval : ∀ (j : Nat) t v, Tryz.f3.params[j]? = some t → args[j]? = some v → Value.okWide Tryz.prog W .any base t v)
    (hL : laidMetH Tryz.prog Rows.fnProgramsRow.laid W) (hs0 : W.ShapedOpen Tryz.prog) (hW : DataW.Whole enc Tryz.prog Tryz.f3.params.toList Rows.fnProgramsSpec.vars false W args.toList ds gs before) :
    Calls Tryz.prog 3 args W fun e W' => ∃ v, e = .returned v ∧ Rows.fnProgramsSpec.post enc Tryz.prog Tryz.f3 false true false false W args v W' := by
  have hW' := hW
  obtain ⟨p, q, hA0, hV, rfl, _, _⟩ := hW
  have hA : DataW.TrodAll enc Tryz.prog W 0 (fun _ => true) true [22] args.toList ds p := hA0
  have hlt := hW'.lt
  obtain ⟨rfl, rfl⟩ := trodVars_none hV
  simp only [List.append_nil] at hW' hlt
  have hlen : ds.length = 1 := (trodAll_length hA).2
  obtain ⟨d0, e0⟩ := List.length_eq_one_iff.1 hlen
  subst e0
  have hu : Tryz.prog.underlying 4 = some .bool := by kernel_rfl
  refine (law_calls (ts := [(.sl (.int .u8))]) (tids := [22]) (f := 3) (lend := k3.lend) (F := k3.F) k3_ok (parsB_ok (by kernel_rfl)) (fun x hw => ?_) (b0 := base) (fun j t v ht hv => hval j t v ?_ hv) hA (tabs_of hs0 (f3_list hL).tail.tail)).mono fun e W' ⟨he, hg, hs⟩ => ?_
  · exact ⟨_, rfl⟩
  · rw [← ht, Tryz.params3]; first | rfl | simp
  · subst he
    exact ⟨_, rfl, post_of_kept (pa := p) (pv := []) hW' (fun _ _ _ => trodAll_mk1 (shut_bool hu true)) (fun sp hsp => trodAll_stays (by kernel_rfl) hs (by kernel_rfl) hA hlt hsp) (fun _ _ => rfl) (by simp) hg (ok_one (by kernel_rfl) rfl (okWide_bool_mk hu true))⟩
set_option maxRecDepth 100000 in
theorem f3_met (os : Os) : laidMetH Tryz.prog Rows.fnProgramsRow.laid ((World.laidAll Tryz.prog os Rows.fnProgramsRow.laid).forCall (fun _ _ => 0) ⟨#[], #[.slice none 0 0], []⟩).memory := by
  rw [MakeChecks.laidMetH_plain _ _ _ (by kernel_rfl)]
  exact laidMet_laidAll _ (by kernel_rfl) (by kernel_rfl)
set_option maxRecDepth 100000 in
theorem f3_lifted (os : Os) (started : os.Started) (H : Type) (enc : TypeId × Value → H) :
    ReturnsInHanded {} Tryz.checked os 3 .any (fun w args => (Rows.fnProgramsSpec.pre enc Tryz.prog Tryz.f3 [] false w args ∧ laidMetH Tryz.prog Rows.fnProgramsRow.laid w) ∧ sizedMet enc Tryz.prog Tryz.f3 (OpenSpec.ofChange Rows.fnProgramsSpec) false w args)
      (Rows.fnProgramsSpec.post enc Tryz.prog Tryz.f3 false true false false) := by
  refine retsAndShaped (C := Tryz.checked) (X := fun w _ => laidMetH Tryz.prog Rows.fnProgramsRow.laid w) (fun _ _ _ hh h => h.of_heap hh) f3_own started (by kernel_rfl) Tryz.func3
    (ChangeSpec.witness_shaped (enc := enc) (C := Tryz.checked) (os := os) (X := fun w _ => laidMetH Tryz.prog Rows.fnProgramsRow.laid w) false (World.laidAll Tryz.prog os Rows.fnProgramsRow.laid) #[.slice none 0 0] 8 (World.laidAll_os _ _ _)
      (World.shaped_of_ZipB (by kernel_rfl) (by kernel_rfl)) (by kernel_rfl) (by kernel_rfl) (by kernel_rfl) (f3_met os)) ?_
  intro W base args ds gs before hval hW hL hs0
  exact f3_contract H enc W base args ds gs before hval hL hs0 hW
theorem f3_closed : joinedFacts Tryz.prog 3 Tryz.f3 Rows.fnProgramsSpec Rows.fnProgramsRow = true := by
  unfold joinedFacts
  rw [mayEnter_ok, lifts_ok, make_ok]
  kernel_rfl
theorem f3_said : Rows.FnProgramsSaid :=
  OpenClaim.holds_of_wide 3 Tryz.f3 rfl rfl rfl rfl rfl rfl rfl ⟨rfl, rfl, rfl, rfl, rfl⟩ rfl rfl rfl rfl rfl (by kernel_rfl) Tryz.func3 f3_closed
    (of_decide_eq_true (by kernel_rfl)) (by unfold Func.isWrapper; first | (rw [if_pos (by decide +kernel)]; kernel_rfl) | (rw [if_neg (by decide +kernel)]; exact ⟨rfl, rfl⟩))
    (fun os started H enc _ => f3_lifted os started H enc)
end Go.Proofs.YtnglkhjpdpgahaaGreatDoor.Dm
namespace Go.Proofs.YtnglkhjpdpgahaaGreatDoor
theorem fnPrograms_row : Rows.FnProgramsSaid := Dm.f3_said
set_option maxRecDepth 100000 in
theorem fnPrograms_said : Rows.FnProgramsCardSaid :=
  Claim7.holds_tied_plain_at .later [] [.data, .data, .data, .data, .sentinel, .sentinel, .pinned] true (true, "278cc919f67ffed593999397e0dbcefdce56b510379a9261a9f6d8dda6c65185") true
    fnPrograms_row (fun _ h => by cases h) (by kernel_rfl) (fun _ h => by cases h) fnPrograms_row_tie rfl ⟨rfl, rfl⟩ (by kernel_rfl) rfl
    (fun f fn hf hfn => by
      obtain rfl : f = 3 := Option.some.inj ((show Tryz.prog.funcNamed "loop.example/g00781/laws.FnPrograms" = some 3 by kernel_rfl).symm.trans hf) |>.symm
      obtain rfl : fn = Tryz.f3 := (Option.some.inj (Tryz.func3.symm.trans hfn)).symm
      exact ⟨by kernel_rfl, fun j t ht => by
        rw [Tryz.params3] at ht
        have h3 : t = 22 := by
          rcases j with _ | j
          · simpa using ht.symm
          · simp at ht
        subst h3
        exact (show Tryz.prog.wantsStandIn 22 = false by kernel_rfl)⟩)
    (by kernel_rfl)
end Go.Proofs.YtnglkhjpdpgahaaGreatDoor
namespace Go.Proofs.YtnglkhjpdpgahaaGreatDoor.Dm
end Go.Proofs.YtnglkhjpdpgahaaGreatDoor.Dm
