/- Functions of the program, and what they compute. -/
import Derived.Test.YtjcinikojcfebaaA19
import Derived.Test.YtjcinikojcfebaaFacts
import Derived.Test.YtjcinikojcfebaaRows
import Derived.ChangeCalls
namespace Go.Proofs.Ytjcinikojcfebaa.Dm
open Go Go.ChangeShapes Go.WideShapes Go.ChangeAt Go.RowKit

theorem step_same {a : List Str} {b : List WriteD} {c d : List FileD} {q p : Int} (h : (saveStepV a b c d q p).2.2.2.2.2.2 = false) (ho : saverOkV a b c d q p = true) : saveStepV a b c d q p = (a, b, c, d, q, p, false) := by
  unfold saveStepV at h ⊢
  rw [if_pos ho] at h ⊢
  split at h
  · rename_i e; rw [if_pos e]
    split at h
    · cases h
    · rename_i e2; rw [if_neg e2]
  · rename_i e; rw [if_neg e]
    split at h
    · cases h
    · rename_i e2; rw [if_neg e2]
      split at h
      · rename_i e3; rw [if_pos e3]
        split at h
        · cases h
        · rename_i e4; rw [if_neg e4]
      · rename_i e3; rw [if_neg e3]
        split at h
        · cases h
        · rename_i e4; rw [if_neg e4]
theorem begin_goal {a : List Str} {b : List WriteD} {c d : List FileD} {q p : Int} {f : List FileD} (h : (saveBeginV a b c d q p f).2.2.2.2.2.2 = true) : saverOkV a b c d q p = true ∧ (saveBeginV a b c d q p f).2.2.2.1 = f := by
  unfold saveBeginV at h ⊢
  split at h
  · rename_i e; rw [if_pos e]
    split at h
    · rename_i e2; rw [if_pos e2]; exact ⟨e, rfl⟩
    · cases h
  · cases h
theorem saver_tail (r : List Str × List WriteD × List FileD × List FileD × Int × Int × Bool) (f : List FileD) (h : r.2.2.2.2.2.2 = true → eqFilesV r.2.2.2.1 f = true ∧ okS r = true) :
    (Out.ite ((r.2.2.2.2.2.2 == r.2.2.2.2.2.2) == true) (Out.ite ((!r.2.2.2.2.2.2) == false) (Out.ite ((eqFilesV r.2.2.2.1 f) == true) (Out.ret (((saverOkV r.1 r.2.1 r.2.2.1 r.2.2.2.1 r.2.2.2.2.1 r.2.2.2.2.2.1, ()), ()), ((), ()))) (Out.ret (((false, ()), ()), ((), ()))))
      (Out.ret (((true, ()), ()), ((), ())))) (Out.ret (((false, ()), ()), ((), ()))) : Out (((Bool × Unit) × Unit) × (Unit × Unit))).eval = some (((true, ()), ()), ((), ())) := by
  refine (eval_ite_t (by simp)).trans ?_
  cases hs : r.2.2.2.2.2.2 with
  | false => exact eval_ite_f (by rfl)
  | true =>
    obtain ⟨h1, h2⟩ := h hs
    unfold okS at h2
    rw [h2]
    exact (eval_ite_t (by rfl)).trans (eval_ite_t (by rw [h1]; rfl))
def f25_tree (a0 : List Int) : Out (((Bool × Unit) × Unit) × (Unit × Unit)) :=
 .ite (bigV a0)
 (.ret (((true, ()), ()), ((), ())))
 (.get (k115_V a0) fun y1 =>
 .ite (!((saveStepV y1.1.1.1 y1.1.1.2.1 y1.1.1.2.2.1 y1.1.1.2.2.2.1 y1.1.1.2.2.2.2.1 y1.1.1.2.2.2.2.2.1).2.2.2.2.2.2 == (saveStepV y1.1.1.1 y1.1.1.2.1 y1.1.1.2.2.1 y1.1.1.2.2.2.1 y1.1.1.2.2.2.2.1 y1.1.1.2.2.2.2.2.1).2.2.2.2.2.2))
 (.ret (((false, ()), ()), ((), ())))
 (.ite (!(saverOkV y1.1.1.1 y1.1.1.2.1 y1.1.1.2.2.1 y1.1.1.2.2.2.1 y1.1.1.2.2.2.2.1 y1.1.1.2.2.2.2.2.1))
 (.ret (((((((List.length (saveStepV y1.1.1.1 y1.1.1.2.1 y1.1.1.2.2.1 y1.1.1.2.2.2.1 y1.1.1.2.2.2.2.1 y1.1.1.2.2.2.2.2.1).1 : Nat) : Int) == (0 : Int))), ()), ()), ((), ())))
 (.get (k116_V a0) fun y2 =>
 .ite ((saverOkV (saveStepV y1.1.1.1 y1.1.1.2.1 y1.1.1.2.2.1 y1.1.1.2.2.2.1 y1.1.1.2.2.2.2.1 y1.1.1.2.2.2.2.2.1).1 (saveStepV y1.1.1.1 y1.1.1.2.1 y1.1.1.2.2.1 y1.1.1.2.2.2.1 y1.1.1.2.2.2.2.1 y1.1.1.2.2.2.2.2.1).2.1 (saveStepV y1.1.1.1 y1.1.1.2.1 y1.1.1.2.2.1 y1.1.1.2.2.2.1 y1.1.1.2.2.2.2.1 y1.1.1.2.2.2.2.2.1).2.2.1 (saveStepV y1.1.1.1 y1.1.1.2.1 y1.1.1.2.2.1 y1.1.1.2.2.2.1 y1.1.1.2.2.2.2.1 y1.1.1.2.2.2.2.2.1).2.2.2.1 (saveStepV y1.1.1.1 y1.1.1.2.1 y1.1.1.2.2.1 y1.1.1.2.2.2.1 y1.1.1.2.2.2.2.1 y1.1.1.2.2.2.2.2.1).2.2.2.2.1 (saveStepV y1.1.1.1 y1.1.1.2.1 y1.1.1.2.2.1 y1.1.1.2.2.2.1 y1.1.1.2.2.2.2.1 y1.1.1.2.2.2.2.2.1).2.2.2.2.2.1) == true)
 (.ite ((saveStepV y1.1.1.1 y1.1.1.2.1 y1.1.1.2.2.1 y1.1.1.2.2.2.1 y1.1.1.2.2.2.2.1 y1.1.1.2.2.2.2.2.1).2.2.2.2.2.2 == false)
 (.ite ((((saveStepV y1.1.1.1 y1.1.1.2.1 y1.1.1.2.2.1 y1.1.1.2.2.2.1 y1.1.1.2.2.2.2.1 y1.1.1.2.2.2.2.2.1).2.2.2.2.2.1 == y1.1.1.2.2.2.2.2.1)) == true)
 (.ite ((((saveStepV y1.1.1.1 y1.1.1.2.1 y1.1.1.2.2.1 y1.1.1.2.2.2.1 y1.1.1.2.2.2.2.1 y1.1.1.2.2.2.2.2.1).2.2.2.2.1 == y1.1.1.2.2.2.2.1)) == true)
 (.ite (((((List.length (saveStepV y1.1.1.1 y1.1.1.2.1 y1.1.1.2.2.1 y1.1.1.2.2.2.1 y1.1.1.2.2.2.2.1 y1.1.1.2.2.2.2.2.1).2.1 : Nat) : Int) == ((List.length y1.1.1.2.1 : Nat) : Int))) == true)
 (.ite (((saveBeginV y2.1.1.1 y2.1.1.2.1 y2.1.1.2.2.1 y2.1.1.2.2.2.1 y2.1.1.2.2.2.2.1 y2.1.1.2.2.2.2.2.1 y2.1.2.1.1).2.2.2.2.2.2 == (saveBeginV y2.1.1.1 y2.1.1.2.1 y2.1.1.2.2.1 y2.1.1.2.2.2.1 y2.1.1.2.2.2.2.1 y2.1.1.2.2.2.2.2.1 y2.1.2.1.1).2.2.2.2.2.2) == true)
 (.ite ((!(saveBeginV y2.1.1.1 y2.1.1.2.1 y2.1.1.2.2.1 y2.1.1.2.2.2.1 y2.1.1.2.2.2.2.1 y2.1.1.2.2.2.2.2.1 y2.1.2.1.1).2.2.2.2.2.2) == false)
 (.ite ((eqFilesV (saveBeginV y2.1.1.1 y2.1.1.2.1 y2.1.1.2.2.1 y2.1.1.2.2.2.1 y2.1.1.2.2.2.2.1 y2.1.1.2.2.2.2.2.1 y2.1.2.1.1).2.2.2.1 y2.1.2.1.1) == true)
 (.ret ((((saverOkV (saveBeginV y2.1.1.1 y2.1.1.2.1 y2.1.1.2.2.1 y2.1.1.2.2.2.1 y2.1.1.2.2.2.2.1 y2.1.1.2.2.2.2.2.1 y2.1.2.1.1).1 (saveBeginV y2.1.1.1 y2.1.1.2.1 y2.1.1.2.2.1 y2.1.1.2.2.2.1 y2.1.1.2.2.2.2.1 y2.1.1.2.2.2.2.2.1 y2.1.2.1.1).2.1 (saveBeginV y2.1.1.1 y2.1.1.2.1 y2.1.1.2.2.1 y2.1.1.2.2.2.1 y2.1.1.2.2.2.2.1 y2.1.1.2.2.2.2.2.1 y2.1.2.1.1).2.2.1 (saveBeginV y2.1.1.1 y2.1.1.2.1 y2.1.1.2.2.1 y2.1.1.2.2.2.1 y2.1.1.2.2.2.2.1 y2.1.1.2.2.2.2.2.1 y2.1.2.1.1).2.2.2.1 (saveBeginV y2.1.1.1 y2.1.1.2.1 y2.1.1.2.2.1 y2.1.1.2.2.2.1 y2.1.1.2.2.2.2.1 y2.1.1.2.2.2.2.2.1 y2.1.2.1.1).2.2.2.2.1 (saveBeginV y2.1.1.1 y2.1.1.2.1 y2.1.1.2.2.1 y2.1.1.2.2.2.1 y2.1.1.2.2.2.2.1 y2.1.1.2.2.2.2.2.1 y2.1.2.1.1).2.2.2.2.2.1), ()), ()), ((), ())))
 (.ret (((false, ()), ()), ((), ()))))
 (.ret (((true, ()), ()), ((), ()))))
 (.ret (((false, ()), ()), ((), ()))))
 (.ret (((false, ()), ()), ((), ()))))
 (.ret (((false, ()), ()), ((), ()))))
 (.ret (((false, ()), ()), ((), ()))))
 (.ite (((saveBeginV y2.1.1.1 y2.1.1.2.1 y2.1.1.2.2.1 y2.1.1.2.2.2.1 y2.1.1.2.2.2.2.1 y2.1.1.2.2.2.2.2.1 y2.1.2.1.1).2.2.2.2.2.2 == (saveBeginV y2.1.1.1 y2.1.1.2.1 y2.1.1.2.2.1 y2.1.1.2.2.2.1 y2.1.1.2.2.2.2.1 y2.1.1.2.2.2.2.2.1 y2.1.2.1.1).2.2.2.2.2.2) == true)
 (.ite ((!(saveBeginV y2.1.1.1 y2.1.1.2.1 y2.1.1.2.2.1 y2.1.1.2.2.2.1 y2.1.1.2.2.2.2.1 y2.1.1.2.2.2.2.2.1 y2.1.2.1.1).2.2.2.2.2.2) == false)
 (.ite ((eqFilesV (saveBeginV y2.1.1.1 y2.1.1.2.1 y2.1.1.2.2.1 y2.1.1.2.2.2.1 y2.1.1.2.2.2.2.1 y2.1.1.2.2.2.2.2.1 y2.1.2.1.1).2.2.2.1 y2.1.2.1.1) == true)
 (.ret ((((saverOkV (saveBeginV y2.1.1.1 y2.1.1.2.1 y2.1.1.2.2.1 y2.1.1.2.2.2.1 y2.1.1.2.2.2.2.1 y2.1.1.2.2.2.2.2.1 y2.1.2.1.1).1 (saveBeginV y2.1.1.1 y2.1.1.2.1 y2.1.1.2.2.1 y2.1.1.2.2.2.1 y2.1.1.2.2.2.2.1 y2.1.1.2.2.2.2.2.1 y2.1.2.1.1).2.1 (saveBeginV y2.1.1.1 y2.1.1.2.1 y2.1.1.2.2.1 y2.1.1.2.2.2.1 y2.1.1.2.2.2.2.1 y2.1.1.2.2.2.2.2.1 y2.1.2.1.1).2.2.1 (saveBeginV y2.1.1.1 y2.1.1.2.1 y2.1.1.2.2.1 y2.1.1.2.2.2.1 y2.1.1.2.2.2.2.1 y2.1.1.2.2.2.2.2.1 y2.1.2.1.1).2.2.2.1 (saveBeginV y2.1.1.1 y2.1.1.2.1 y2.1.1.2.2.1 y2.1.1.2.2.2.1 y2.1.1.2.2.2.2.1 y2.1.1.2.2.2.2.2.1 y2.1.2.1.1).2.2.2.2.1 (saveBeginV y2.1.1.1 y2.1.1.2.1 y2.1.1.2.2.1 y2.1.1.2.2.2.1 y2.1.1.2.2.2.2.1 y2.1.1.2.2.2.2.2.1 y2.1.2.1.1).2.2.2.2.2.1), ()), ()), ((), ())))
 (.ret (((false, ()), ()), ((), ()))))
 (.ret (((true, ()), ()), ((), ()))))
 (.ret (((false, ()), ()), ((), ())))))
 (.ret (((false, ()), ()), ((), ()))))))
def true1c (_ : List Int) : Bool := true
def k25 : Con := { f := 25, lend := true, its := [⟨false, false, [.ro (.int .u8)]⟩], lay := [none], rs := [⟨false, false, [.b]⟩], F := fun x => .ret ((((true1c x.1.1), ()), ()), ((), ())) }
theorem f25_eq (x : itemsD k25.its) : bodyOut (cxOf [k45, k115, k107, k114, k78, k116, k106, k109, k94]) (fun _ => none) (codeOf Try.f25) k25.its k25.lay Try.f25.ntmps k25.rs [.tmp 2] x = f25_tree x.1.1 := by kernel_rfl
theorem f25_ok (hr : ∀ x : (List Int × Unit) × Unit, itemsWF k25.its x → (f25_tree x.1.1).eval = (k25.F x).eval) : k25.Ok Try.prog :=
  con_fn [k45, k115, k107, k114, k78, k116, k106, k109, k94] ⟨k45_ok, k115_ok, k107_ok, k114_ok, k78_ok, k116_ok, k106_ok, k109_ok, k94_ok, trivial⟩ (by kernel_rfl) (codeOf_eq (by kernel_rfl)) (by kernel_rfl) (by kernel_rfl) (by kernel_rfl) f25_eq fun x hw _ hy => (hr x hw).trans hy
theorem k25_ok : k25.Ok Try.prog := by
  refine f25_ok fun x hw => ?_
  obtain ⟨⟨c, _⟩, _⟩ := x
  have hc : c.length ≤ BIG := hw.1.1.1
  show (f25_tree c).eval = some (((true, ()), ()), ((), ()))
  unfold f25_tree
  by_cases hb : bigV c = true
  · rw [eval_ite_t hb]; rfl
  rw [eval_ite_f (by simpa using hb)]
  obtain ⟨y, e, _⟩ := drawStep_tot hc
  refine (eval_get_some e).trans ?_
  obtain ⟨⟨⟨a, b, cc, d, q, p, _⟩, _⟩, _⟩ := y
  dsimp only
  refine (eval_ite_f (by simp)).trans ?_
  cases ho : saverOkV a b cc d q p with
  | false =>
    refine (eval_ite_t (by rfl)).trans ?_
    have : saveStepV a b cc d q p = ([], [], [], [], 0, 0, false) := by unfold saveStepV; rw [if_neg (by simp [ho])]
    rw [this]; rfl
  | true =>
    refine (eval_ite_f (by rfl)).trans ?_
    obtain ⟨z, e2, _⟩ := drawBegin_tot hc
    refine (eval_get_some e2).trans ?_
    obtain ⟨⟨⟨a2, b2, c2, d2, q2, p2, _⟩, ⟨f, _⟩, _⟩, _⟩ := z
    dsimp only
    have hso := step_ok ho
    unfold okS at hso
    refine (eval_ite_t (by rw [hso]; rfl)).trans ?_
    have tail := saver_tail (saveBeginV a2 b2 c2 d2 q2 p2 f) f fun hs => by
      obtain ⟨h1, h2⟩ := begin_goal hs
      exact ⟨decide_eq_true h2, begin_ok (f := f) h1⟩
    cases hs : (saveStepV a b cc d q p).2.2.2.2.2.2 with
    | true => exact (eval_ite_f (by rfl)).trans tail
    | false =>
      have hs' := step_same hs ho
      refine (eval_ite_t (by rfl)).trans ?_
      rw [hs']
      exact (eval_ite_t (by simp)).trans ((eval_ite_t (by simp)).trans ((eval_ite_t (by simp)).trans tail))

theorem f25_own : ownKnob Try.prog.godebug = none := by kernel_rfl
set_option maxRecDepth 100000 in
theorem f25_contract (H : Type) (enc : TypeId × Value → H) (W : World) (base : Nat) (args : Array Value) (ds gs : List (DataW H)) (before : List MemPlace)
    (hval : ∀ (j : Nat) t v, Try.f25.params[j]? = some t → args[j]? = some v → Value.okWide Try.prog W .any base t v)
    (hW : DataW.Whole enc Try.prog Try.f25.params.toList Rows.fnSaverSpec.vars false W args.toList ds gs before) :
    Calls Try.prog 25 args W fun e W' => ∃ v, e = .returned v ∧ Rows.fnSaverSpec.post enc Try.prog Try.f25 false true false false W args v W' := by
  have hW' := hW
  obtain ⟨p, q, hA0, hV, rfl, _, _⟩ := hW
  have hA : DataW.TrodAll enc Try.prog W 0 (fun _ => true) true [58] args.toList ds p := hA0
  have hlt := hW'.lt
  obtain ⟨rfl, rfl⟩ := trodVars_none hV
  simp only [List.append_nil] at hW' hlt
  have hlen : ds.length = 1 := (trodAll_length hA).2
  obtain ⟨d0, e0⟩ := List.length_eq_one_iff.1 hlen
  subst e0
  have hu : Try.prog.underlying 4 = some .bool := by kernel_rfl
  refine (law_calls (ts := [(.sl (.int .u8))]) (tids := [58]) (f := 25) (lend := k25.lend) (F := k25.F) k25_ok (parsB_ok (by kernel_rfl)) (fun x hw => ?_) (b0 := base) (fun j t v ht hv => hval j t v ?_ hv) hA).mono fun e W' ⟨he, hg, hs⟩ => ?_
  · exact ⟨_, rfl⟩
  · rw [← ht, Try.params25]; first | rfl | simp
  · subst he
    exact ⟨_, rfl, post_of_kept (pa := p) (pv := []) hW' (fun _ _ _ => trodAll_mk1 (shut_bool hu true)) (fun sp hsp => trodAll_stays (by kernel_rfl) hs (by kernel_rfl) hA hlt hsp) (fun _ _ => rfl) (by simp) hg (ok_one (by kernel_rfl) rfl (okWide_bool_mk hu true))⟩
set_option maxRecDepth 100000 in
theorem f25_lifted (os : Os) (started : os.Started) (H : Type) (enc : TypeId × Value → H) :
    ReturnsInHanded {} Try.checked os 25 .any (Rows.fnSaverSpec.pre6 enc Try.prog Try.f25 Rows.fnSaverRow.domain false) (Rows.fnSaverSpec.post enc Try.prog Try.f25 false true false false) := by
  refine returnsInHanded_of_change (C := Try.checked) f25_own started (by kernel_rfl) Try.func25
    (ChangeSpec.witness6 (enc := enc) (C := Try.checked) false ⟨#[], #[.slice none 0 0], []⟩ 8 (by kernel_rfl) (by kernel_rfl) (by kernel_rfl) (by kernel_rfl)) ?_
  intro W base args ds gs before hval hW _ _
  exact f25_contract H enc W base args ds gs before hval hW
theorem f25_closed : joinedFacts Try.prog 25 Try.f25 Rows.fnSaverSpec Rows.fnSaverRow = true := by
  unfold joinedFacts
  rw [mayEnter_ok, lifts_ok, make_ok]
  kernel_rfl
theorem f25_said : Rows.FnSaverSaid :=
  OpenClaim.holds_of_wide 25 Try.f25 rfl rfl rfl rfl rfl rfl rfl ⟨rfl, rfl, rfl, rfl, rfl⟩ rfl rfl rfl rfl rfl (by kernel_rfl) Try.func25 f25_closed
    (of_decide_eq_true (by kernel_rfl)) (by unfold Func.isWrapper; first | (rw [if_pos (by decide +kernel)]; kernel_rfl) | (rw [if_neg (by decide +kernel)]; exact ⟨rfl, rfl⟩))
    (fun os started H enc _ => f25_lifted os started H enc)
end Go.Proofs.Ytjcinikojcfebaa.Dm
namespace Go.Proofs.Ytjcinikojcfebaa
theorem fnSaver_said : Rows.FnSaverSaid := Dm.f25_said
end Go.Proofs.Ytjcinikojcfebaa
namespace Go.Proofs.Ytjcinikojcfebaa.Dm


end Go.Proofs.Ytjcinikojcfebaa.Dm
