/- Functions of the program, and what they compute. -/
import Derived.Test.YtnglkhjpdpgahaaGreatDoorP9
namespace Go.Proofs.YtnglkhjpdpgahaaGreatDoor.Dm
open Go Go.ChangeShapes Go.WideShapes Go.ChangeAt Go.RowKit
def atoiP (s : Str) : Option (Int × Bool) := if s.length ≤ 1000000 then some (match Lib.atoiAll s with
  | .ok v => (v, true)
  | .range => (Lib.atoiSat s, false)
  | _ => (0, false)) else none
theorem con_atoi {P : Program} {f g1 g2 : Nat} {lend : Bool} (hfn : ThereI P f) (ht1 : (g1, IsErr) ∈ tabs) (ht2 : (g2, IsErr) ∈ tabs)
    (h0 : ∀ (s : ByteArray) (_ : s.size ≤ 9223372036854775806) (v : Int) (_ : Lib.atoiAll s.data.toList = .ok v) (w : World), Calls P f #[.string s] w fun e w' => e = .returned (.tuple #[.int .i64 v, .nilIface]) ∧ Below w.heap.size w w')
    (h1 : ∀ (s : ByteArray) (_ : s.size ≤ 281474976710656) (_ : (∀ v, Lib.atoiAll s.data.toList ≠ .ok v) ∧ Lib.atoiAll s.data.toList ≠ .range) (ev : Value) (w : World) (_ : w.cell? ⟨g1, 0, none⟩ = some ev) (_ : ev = .nilIface ∨ ∃ te pe, ev = .iface te pe), Calls P f #[.string s] w fun e w' => ∃ t p, e = .returned (.tuple #[.int .i64 0, .iface t p]) ∧ Below w.heap.size w w')
    (h2 : ∀ (s : ByteArray) (_ : s.size ≤ 281474976710656) (_ : Lib.atoiAll s.data.toList = .range) (ev : Value) (w : World) (_ : w.cell? ⟨g2, 0, none⟩ = some ev) (_ : ev = .nilIface ∨ ∃ te pe, ev = .iface te pe), Calls P f #[.string s] w fun e w' => ∃ t p, e = .returned (.tuple #[.int .i64 (Lib.atoiSat s.data.toList), .iface t p]) ∧ Below w.heap.size w w') :
    Con.Ok P { f := f, lend := lend, its := [⟨false, false, [.s]⟩], lay := [none], rs := [⟨false, false, [.i .i64]⟩, ⟨false, false, [.e]⟩], F := fun x => .get (atoiP x.1.1) fun y => .ret (((y.1, ()), ((y.2, ()), ())), ((), ())) } := by
  intro x y hy S w hS ivs fp gg hrep hnd hns
  obtain ⟨⟨s, u⟩, u'⟩ := x
  have hy : (Out.get (atoiP s) fun y : Int × Bool => Out.ret (((y.1, ()), ((y.2, ()), ())), ((), ()))).eval = some y := hy
  unfold atoiP at hy
  by_cases hl : s.length ≤ 1000000
  case neg => rw [if_neg hl] at hy; exact nomatch hy
  rw [if_pos hl] at hy
  have hy := Option.some.inj hy
  simp only [ItemsRep, ItemRep, cmRep] at hrep
  obtain ⟨v, _, f1, _, g1', _, rfl, rfl, rfl, ⟨rfl, ⟨_, hv, hb1, rfl, rfl⟩, _, hone⟩, rfl, rfl, rfl⟩ := hrep
  have hvv : v = .string ⟨s.toArray⟩ := by
    have ho := hone trivial
    cases v <;> first | (cases ho; done) | skip
    all_goals first | (simp [Value.cells] at hv; done) | skip
    all_goals simpa [Value.cells] using hv
  subst hvv
  refine ⟨hfn.ex, ?_⟩
  have hargs : (layV [none] [Value.string ⟨s.toArray⟩]).toArray = #[.string ⟨s.toArray⟩] := rfl
  show Calls P f (layV [none] [Value.string ⟨s.toArray⟩]).toArray w _
  rw [hargs]
  have hsz : ByteArray.size ⟨s.toArray⟩ = s.length := by simp [ByteArray.size]
  cases ha : Lib.atoiAll s with
  | ok n =>
    rw [ha] at hy
    subst hy
    refine (h0 ⟨s.toArray⟩ (by rw [hsz]; omega) n ha w).mono fun e w' he => ?_
    obtain ⟨rfl, hb⟩ := he
    refine ⟨⟨[.int .i64 n, .nilIface], [], [], [], rfl, ⟨S, fun _ h => h, fun b h => ⟨.inl h, Nat.lt_of_lt_of_le (hS.1 b h) hb.size⟩, by simp, ?_⟩, ?_, by simp, by simp⟩, below_evI hb⟩
    · simp only [ItemsRep, ItemRep, cmRep]
      exact ⟨_, _, [], [], [], [], rfl, rfl, rfl, ⟨rfl, ⟨_, rfl, rfl, rfl⟩, by simp, fun _ => rfl⟩, _, _, [], [], [], [], rfl, rfl, rfl, ⟨rfl, ⟨_, _, rfl, ⟨rfl, rfl⟩, rfl, rfl⟩, by simp, fun _ => rfl⟩, rfl, rfl, rfl⟩
    · simp only [BacksRep, BackRep, backRepV]
      exact ⟨_, _, [], [], rfl, rfl, ⟨.string ⟨s.toArray⟩, [], by simp [Value.cells], rfl, rfl⟩, rfl, rfl⟩
  | range =>
    rw [ha] at hy
    subst hy
    obtain ⟨_, o, hh, ev, c, E, n, rfl, hc, hev⟩ := hS.2 _ ht2
    refine (h2 ⟨s.toArray⟩ (by rw [hsz]; omega) ha ev w (by simp [World.cell?, hh, hc]) hev).mono fun e w' he => ?_
    obtain ⟨t, p, rfl, hb⟩ := he
    refine ⟨⟨[.int .i64 (Lib.atoiSat s), .iface t p], [], [], [], rfl, ⟨S, fun _ h => h, fun b h => ⟨.inl h, Nat.lt_of_lt_of_le (hS.1 b h) hb.size⟩, by simp, ?_⟩, ?_, by simp, by simp⟩, below_evI hb⟩
    · simp only [ItemsRep, ItemRep, cmRep]
      exact ⟨_, _, [], [], [], [], rfl, rfl, rfl, ⟨rfl, ⟨_, rfl, rfl, rfl⟩, by simp, fun _ => rfl⟩, _, _, [], [], [], [], rfl, rfl, rfl, ⟨rfl, ⟨_, _, rfl, ⟨rfl, t, p, rfl⟩, rfl, rfl⟩, by simp, fun _ => rfl⟩, rfl, rfl, rfl⟩
    · simp only [BacksRep, BackRep, backRepV]
      exact ⟨_, _, [], [], rfl, rfl, ⟨.string ⟨s.toArray⟩, [], by simp [Value.cells], rfl, rfl⟩, rfl, rfl⟩
  | _ =>
    rw [ha] at hy
    subst hy
    obtain ⟨_, o, hh, ev, c, E, n, rfl, hc, hev⟩ := hS.2 _ ht1
    refine (h1 ⟨s.toArray⟩ (by rw [hsz]; omega) ⟨fun v e => (nomatch (show Lib.atoiAll s = .ok v from e).symm.trans ha), fun e => (nomatch (show Lib.atoiAll s = .range from e).symm.trans ha)⟩ ev w (by simp [World.cell?, hh, hc]) hev).mono fun e w' he => ?_
    obtain ⟨t, p, rfl, hb⟩ := he
    refine ⟨⟨[.int .i64 0, .iface t p], [], [], [], rfl, ⟨S, fun _ h => h, fun b h => ⟨.inl h, Nat.lt_of_lt_of_le (hS.1 b h) hb.size⟩, by simp, ?_⟩, ?_, by simp, by simp⟩, below_evI hb⟩
    · simp only [ItemsRep, ItemRep, cmRep]
      exact ⟨_, _, [], [], [], [], rfl, rfl, rfl, ⟨rfl, ⟨_, rfl, rfl, rfl⟩, by simp, fun _ => rfl⟩, _, _, [], [], [], [], rfl, rfl, rfl, ⟨rfl, ⟨_, _, rfl, ⟨rfl, t, p, rfl⟩, rfl, rfl⟩, by simp, fun _ => rfl⟩, rfl, rfl, rfl⟩
    · simp only [BacksRep, BackRep, backRepV]
      exact ⟨_, _, [], [], rfl, rfl, ⟨.string ⟨s.toArray⟩, [], by simp [Value.cells], rfl, rfl⟩, rfl, rfl⟩
def k64 : Con := { f := 64, lend := true, its := [⟨false, false, [.s]⟩], lay := [none], rs := [⟨false, false, [.i .i64]⟩, ⟨false, false, [.e]⟩], F := fun x => .get (atoiP x.1.1) fun y => .ret (((y.1, ()), (y.2, ()), ()), ((), ())) }
theorem k64_ok : k64.Ok Tryz.prog := con_atoi (g1 := 1) (g2 := 2) ⟨⟨_, Tryz.func64, by kernel_rfl, by kernel_rfl⟩⟩ (by simp [tabs]) (by simp [tabs])
  (fun s hs v h w => (Tryz.strconv_Atoi_ok s hs v h w).mono fun e w1 ⟨he, hw⟩ => by
    rcases hw with rfl | ⟨t, rfl⟩
    · exact ⟨he, Below.refl _ _⟩
    · exact ⟨he, Lib.bytesWorld_below _ _ _⟩)
  (fun s hs h ev w hv hev => (Tryz.strconv_Atoi_syntax s hs h ev w hv hev).mono fun e w1 ⟨N, he, _, _, hb⟩ => ⟨_, _, he, hb⟩)
  (fun s hs h ev w hv hev => (Tryz.strconv_Atoi_range s hs h ev w hv hev).mono fun e w1 ⟨N, he, _, _, hb⟩ => ⟨_, _, he, hb⟩)
def readDecP (s : Str) : Option (Int × Bool) := if s.length ≤ 1000000 then some (readDecV2 s) else none
def f46_tree (a0 : List UInt8) : Out (((Int × Unit) × (Bool × Unit) × Unit) × (Unit × Unit)) :=
 .get (atoiP a0) fun y1 =>
 .ite ((!y1.2) == false)
 (.get (itoaP y1.1) fun y2 =>
 .ite ((y2 != a0) == false)
 (.ite (!(inV y1.1 (-999999999 : Int) (999999999 : Int)))
 (.ret ((((0 : Int), ()), (false, ()), ()), ((), ())))
 (.ret (((y1.1, ()), (true, ()), ()), ((), ()))))
 (.ret ((((0 : Int), ()), (false, ()), ()), ((), ()))))
 (.ret ((((0 : Int), ()), (false, ()), ()), ((), ())))
def k46 : Con := { f := 46, lend := true, its := [⟨false, false, [.s]⟩], lay := [none], rs := [⟨false, false, [.i .i64]⟩, ⟨false, false, [.b]⟩], F := fun x => .get (readDecP x.1.1) fun y => .ret (((y.1, ()), (y.2, ()), ()), ((), ())) }
theorem f46_eq (x : itemsD k46.its) : bo [k64, k23, k42] (fun _ => none) Tryz.f46 k46 [.tmp 2, .tmp 3] x = f46_tree x.1.1 := by kernel_rfl
theorem f46_okp (hr : ∀ x : (List UInt8 × Unit) × Unit, itemsWF k46.its x → ∀ y, (k46.F x).eval = some y → (f46_tree x.1.1).eval = some y) : k46.Ok Tryz.prog := con_fn [k64, k23, k42] ⟨k64_ok, k23_ok, k42_ok, trivial⟩ f46_eq hr
theorem k46_ok : k46.Ok Tryz.prog := by
  refine f46_okp fun x hw y hy => ?_
  obtain ⟨⟨a0, _⟩, _⟩ := x
  change (Out.get (readDecP a0) fun y => Out.ret (((y.1, ()), (y.2, ()), ()), ((), ()))).eval = some y at hy
  show (f46_tree a0).eval = some y
  unfold readDecP at hy
  by_cases hl : List.length a0 ≤ 1000000
  case neg => rw [if_neg hl] at hy; exact nomatch hy
  rw [if_pos hl] at hy
  refine Eq.trans ?_ hy
  unfold f46_tree
  cases ha : Lib.atoiAll a0 with
  | ok v =>
    have e : atoiP a0 = some (v, true) := by unfold atoiP; rw [if_pos hl, ha]
    obtain ⟨v0, v1⟩ := Lib.atoiAll_bounds ha
    have hr := readDec_atoi ha
    refine (eval_get_some e).trans ((eval_ite_t rfl).trans ((eval_get_some (if_pos ⟨v0, v1⟩ : itoaP v = some (Lib.itoa v))).trans ?_))
    unfold readDecV2
    rw [hr]
    by_cases h1 : Lib.itoa v = a0
    case neg => rw [eval_ite_f (by simpa using h1), if_neg fun q => h1 q.2]; rfl
    rw [eval_ite_t (by simpa using h1)]
    by_cases h2 : In9 v
    · rw [eval_ite_f (by unfold inV; simp; omega), if_pos ⟨h2, h1⟩]; rfl
    · rw [eval_ite_t (by unfold inV; simp; omega), if_neg fun q => h2 q.1]; rfl
  | range =>
    have e : atoiP a0 = some (Lib.atoiSat a0, false) := by unfold atoiP; rw [if_pos hl, ha]
    refine (eval_get_some e).trans ((eval_ite_f rfl).trans ?_)
    unfold readDecV2
    rw [readDec_not (by rw [ha]; intro v q; cases q)]; rfl
  | _ =>
    have e : atoiP a0 = some (0, false) := by unfold atoiP; rw [if_pos hl, ha]
    refine (eval_get_some e).trans ((eval_ite_f rfl).trans ?_)
    unfold readDecV2
    rw [readDec_not (by rw [ha]; intro v q; cases q)]; rfl
end Go.Proofs.YtnglkhjpdpgahaaGreatDoor.Dm
