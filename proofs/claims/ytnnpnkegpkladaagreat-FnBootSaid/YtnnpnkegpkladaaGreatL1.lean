/- Functions of the program, and what they compute. -/
import Derived.Test.YtnnpnkegpkladaaGreatA6
import Derived.Test.YtnnpnkegpkladaaGreatSo
import Derived.Test.YtnnpnkegpkladaaGreatShelf
import Derived.WalkKit
import Derived.BigCall
import Derived.Shelf.RegionOpenPlain
import Derived.Deep.RegionLaw
import Derived.Lib.SliceRun
import Derived.OwnWalk
import Derived.Sort.WalkB12
namespace Go.Proofs.YtnnpnkegpkladaaGreat.Dm
open Go Go.ChangeShapes Go.WideShapes Go.ChangeAt Go.RowKit
section
open Go.RowKit Go.Lib Go.Sort Go.Proofs
theorem eval_get_ret {ρ : Type} (o : Option ρ) : (Out.get o fun y => .ret y).eval = o := by cases o <;> rfl
def frameAt (n : Int) : Int × Int := (IntKind.i64.wrap (n * 4), IntKind.i64.wrap (IntKind.i64.wrap (n + 1) * 4))
def k184 : Con := { f := 184, lend := true, its := [], lay := [], rs := [], F := fun _ => .fail, vw := some (1, frameAt) }
set_option maxRecDepth 10000 in
set_option maxHeartbeats 800000 in
theorem k184_ok : k184.Ok Tryz.prog := by
  show ∀ (ad : Option Addr) (len cap : Nat) (n : Int) (w : World), len ≤ cap → 0 ≤ (frameAt n).1 → (frameAt n).1 ≤ (frameAt n).2 → (frameAt n).2 ≤ (len : Int) →
      Called Tryz.prog 184 #[.slice ad len cap, .int .i64 n] w fun v' w' => v' = .slice (if cap = (frameAt n).1.toNat then ad else ad.map (·.add ((frameAt n).1.toNat * 1))) ((frameAt n).2.toNat - (frameAt n).1.toNat) (cap - (frameAt n).1.toNat) ∧ w' = w
  intro ad len cap n w h1 h2 h3 h4
  refine ⟨⟨_, Tryz.func184, by kernel_rfl, by kernel_rfl⟩, ?_⟩
  unfold frameAt at h2 h3 h4 ⊢
  simp only at h2 h3 h4 ⊢
  have hu : Tryz.prog.underlying 30 = some (.slice 3) := by kernel_rfl
  have hz : Tryz.prog.cellsOf 3 = 1 := by kernel_rfl
  have ew : ∀ x, wrap64 x = IntKind.i64.wrap x := fun x => by rw [IntKind.wrap_i64]; simp only [wrap64]
  go_enter Tryz.func184, Tryz.ntmps184
  go_wp2
  all_goals simp only [ew] at *
  all_goals first
    | (exfalso; omega)
    | (go_ret; exact ⟨rfl, rfl⟩)
    | (go_ret; refine ⟨?_, rfl⟩; simp_all; done)
set_option maxRecDepth 100000 in
set_option maxHeartbeats 1600000 in
theorem del_one (b o cap : Nat) (x : Int) (w : World) (hc : 1 ≤ cap) (hx : w.cell? ⟨b, o, none⟩ = some (.int .i64 x)) (hf : w.frozen? ⟨b, o, none⟩ = false) :
    Calls Tryz.prog 283 #[.slice (some ⟨b, o, none⟩) 1 cap, .int .i64 0, .int .i64 1] w fun e w' => e = .returned (.slice (some ⟨b, o, none⟩) 0 cap) ∧ w' = w.drew.setCells b o [.int .i64 0] := by
  have t24 : Tryz.prog.underlying 30 = some (.slice 3) := by kernel_rfl
  obtain ⟨i0, hi0, hz0, hz1, hz2⟩ := info_parts (P := Tryz.prog) (e := 3) (z := .int .i64 0) (size := 1) (bytes := 8) (by kernel_rfl)
  obtain ⟨A, hA⟩ : ∃ A : Addr, (if cap = 1 then some (⟨b, o, none⟩ : Addr) else some ⟨b, o + 1, none⟩) = some A := by
    by_cases h : cap = 1
    · exact ⟨_, if_pos h⟩
    · exact ⟨_, if_neg h⟩
  obtain ⟨W1, hW1⟩ : ∃ W1, W1 = w.drew.setCells b o [] := ⟨_, rfl⟩
  have hcl : ∀ ty, (Builtin.clear_ #[30] ty #[.slice (some ⟨b, o, none⟩) 1 cap]).run Tryz.prog W1 = .ok (.tuple #[]) (W1.setCells b o (List.replicate 1 (.int .i64 0))) := fun ty =>
    Lib.run_clear_slice W1 _ _ ty _ t24 (fun w => by kernel_rfl) rfl rfl b o _ _ (by omega) (fun t ht => by
      obtain rfl : t = 0 := by omega
      rw [hW1, Nat.add_zero, show w.drew.setCells b o [] = w.drew by simp [World.setCells]]; show (w.cell? _).isSome = true; rw [hx]; rfl) (fun t ht => by
      obtain rfl : t = 0 := by omega
      rw [hW1, Nat.add_zero, show w.drew.setCells b o [] = w.drew by simp [World.setCells]]; exact hf)
  have hn : w.drew.setCells b o [] = w.drew := by simp [World.setCells]
  have X : Aside (W1 = w.drew) := hW1.trans hn
  have hW : Hid (W1 = w.drew.setCells b o []) := hW1
  clear hW1 hn
  have mixed : Tryz.prog.follows .mixedOrders = true := by kernel_rfl
  go_enter Tryz.func283, Tryz.ntmps283
  go_wp2_with fail
  go_region_law_o (refine step_append_room rfl (.tmp 22) (.tmp 25) 30 rfl 3 i0 1 t24 hi0 hz1 b o 0 cap (by simp [Act.eval, Act.put]) A 0 (cap - 1) [] (by simp [Act.eval, Act.put, hA]) rfl (by simp) (by simp) (by omega) (by simp) ?_; simp only [Nat.zero_mul, Nat.add_zero]; rw [← hW.out])
  go_wp2
  go_ret
  exact ⟨rfl, by rw [X.out]⟩
theorem del_row (b o cap : Nat) (x : Int) (w : World) (hc : 1 ≤ cap) (hH : Holds (Value.int .i64) w b o #[x]) :
    Calls Tryz.prog 283 #[.slice (some ⟨b, o, none⟩) 1 cap, .int .i64 0, .int .i64 1] w fun e w' => e = .returned (.slice (some ⟨b, o, none⟩) 0 cap) ∧ ∃ q, w' = putRow (Value.int .i64) (Sort.ahead w q) b o #[0] := by
  have h0 := hH 0 (by simp)
  refine (del_one b o cap x w hc h0.1 h0.2).mono fun e w' ⟨he, hw⟩ => ⟨he, 1, ?_⟩
  have h1 := putRow_setCells (Value.int .i64) (Sort.ahead w 1) b o [0] #[x] 0 (by simp)
  rw [putRow_self (Value.int .i64) (Sort.ahead w 1) b o #[x] (holds_ahead (Value.int .i64) w 1 b o #[x] hH)] at h1
  exact hw.trans h1
def deleteP (zs : List Int) (i j : Int) : Option (List Int) := if zs.length = 1 ∧ i = 0 ∧ j = 1 then some [] else none
theorem con_delete {P : Program} {f : Nat} {lend : Bool} (hfn : There P f)
    (h1 : ∀ (b o cap : Nat) (x : Int) (w : World), 1 ≤ cap → Holds (Value.int .i64) w b o #[x] →
      Calls P f #[.slice (some ⟨b, o, none⟩) 1 cap, .int .i64 0, .int .i64 1] w fun e w' => e = .returned (.slice (some ⟨b, o, none⟩) 0 cap) ∧ ∃ q, w' = putRow (Value.int .i64) (Sort.ahead w q) b o #[0]) :
    Con.Ok P { f := f, lend := lend, its := [⟨false, false, [.own (.int .i64)]⟩, ⟨false, false, [.i .i64]⟩, ⟨false, false, [.i .i64]⟩], lay := [none, none, none], rs := [⟨false, false, [.own (.int .i64)]⟩], F := fun x => .get (deleteP x.1.1 x.2.1.1 x.2.2.1.1) fun y => .ret (((y, ()), ()), ((), ((), ((), ())))) } := by
  intro x y hy S w hS ivs fp g hrep hnd hns
  obtain ⟨⟨xs, u⟩, ⟨i, ui⟩, ⟨j, uj⟩, u'⟩ := x
  revert xs i j
  intro (xs : List Int) (i : Int) (j : Int) hy hrep
  have hy : (Out.get (deleteP xs i j) fun y : List Int => Out.ret ((((y, ()), ()), ((), ((), ((), ())))) : ((List Int × Unit) × Unit) × (Unit × (Unit × (Unit × Unit))))).eval = some y := hy
  unfold deleteP at hy
  by_cases hl : xs.length = 1 ∧ i = 0 ∧ j = 1
  case neg => rw [if_neg hl] at hy; exact nomatch hy
  rw [if_pos hl] at hy
  have hy := Option.some.inj hy
  subst hy
  obtain ⟨hpos, rfl, rfl⟩ := hl
  obtain ⟨x0, rfl⟩ := List.length_eq_one_iff.1 hpos
  simp only [ItemsRep, ItemRep, cmRep] at hrep
  obtain ⟨v, _, f1, _, g1, _, rfl, rfl, rfl, ⟨rfl, ⟨v', _, f11, _, hv, rfl, hr, rfl, rfl⟩, _, hone⟩, v2, _, f2, _, g2, _, rfl, rfl, rfl, ⟨rfl, ⟨_, hv2, rfl, rfl⟩, _, hone2⟩, v3, _, f3, _, g3, _, rfl, rfl, rfl, ⟨rfl, ⟨_, hv3, rfl, rfl⟩, _, hone3⟩, rfl, rfl, rfl⟩ := hrep
  obtain ⟨a, cap, rfl, hc, hb, hr⟩ := own_ints hr
  have hvv : v = .slice a 1 cap := by
    have ho := hone trivial
    cases v <;> first | (cases ho; done) | skip
    all_goals first | (simp [Value.cells] at hv; done) | skip
    all_goals simpa [Value.cells] using hv
  subst hvv
  have hvv2 : v2 = .int .i64 0 := by
    have ho := hone2 trivial
    cases v2 <;> first | (cases ho; done) | skip
    all_goals first | (simp [Value.cells] at hv2; done) | skip
    all_goals simpa [Value.cells] using hv2
  subst hvv2
  have hvv3 : v3 = .int .i64 1 := by
    have ho := hone3 trivial
    cases v3 <;> first | (cases ho; done) | skip
    all_goals first | (simp [Value.cells] at hv3; done) | skip
    all_goals simpa [Value.cells] using hv3
  subst hvv3
  refine ⟨hfn.ex, ?_⟩
  have hargs : (layV [none, none, none] [Value.slice a 1 cap, .int .i64 0, .int .i64 1]).toArray = #[.slice a 1 cap, .int .i64 0, .int .i64 1] := rfl
  show Calls P f (layV [none, none, none] [Value.slice a 1 cap, .int .i64 0, .int .i64 1]).toArray w _
  rw [hargs]
  have hc : 1 ≤ cap := hc
  rcases hr with ⟨h0c, rfl⟩ | ⟨b, o, c, E, rfl, hh, ho, rfl, hi⟩
  · omega
  · have hns' : ¬ S b := hns b (by simp)
    refine (h1 b o cap x0 w hc (holds_ints hh hi)).mono fun e w' he => ?_
    obtain ⟨rfl, q, rfl⟩ := he
    rw [← grow_empty (putRow _ _ _ _ _)]
    have hrep : ∀ z : Fz, (Ty.sl (.int .i64)).repO z (grow (putRow (Value.int .i64) (Sort.ahead w q) b o #[0]) #[]) [.slice (some ⟨b, o, none⟩) 0 cap] ([] : List Int) [b] :=
      fun _ => own_ints_mk (k := .i64) (xs := ([] : List Int)) (putRow_heap hh) (by simp [putCells]; exact ho) (Nat.zero_le _) (Nat.zero_le _) fun k y hy => by simp at hy
    refine ⟨⟨[.slice (some ⟨b, o, none⟩) 0 cap], [b], [], [], rfl, ⟨S, fun _ h => h, fun b h => ⟨.inl h, Nat.lt_of_lt_of_le (hS.1 b h) putRow_size⟩, by simpa using hns', ?_, ?_⟩, by simp, by simp⟩, putRow_ev hh hns' fun a' ha' => ?_⟩
    · simp only [ItemsRep, ItemRep, cmRep]
      exact ⟨_, _, [b], [], [], [], rfl, rfl, rfl, ⟨rfl, ⟨_, _, [b], [], rfl, rfl, hrep _, rfl, rfl⟩, by simp, fun _ => rfl⟩, rfl, rfl, rfl⟩
    · simp only [BacksRep, BackRep, backRepV]
      exact ⟨_, _, [], [], rfl, rfl, ⟨.slice (some ⟨b, o, none⟩) 1 cap, [], by simp [Value.cells], rfl, rfl⟩, _, _, [], [], rfl, rfl, ⟨.int .i64 0, [], by simp [Value.cells], rfl, rfl⟩, _, _, [], [], rfl, rfl, ⟨.int .i64 1, [], by simp [Value.cells], rfl, rfl⟩, rfl, rfl⟩
    · by_cases e : a'.block = b
      · simp only [World.frozen?]
        rw [e, putRow_heap hh, hh]
      · simp only [World.frozen?]
        rw [putRow_other ha' e]
def k283 : Con := { f := 283, lend := true, its := [⟨false, false, [.own (.int .i64)]⟩, ⟨false, false, [.i .i64]⟩, ⟨false, false, [.i .i64]⟩], lay := [none, none, none], rs := [⟨false, false, [.own (.int .i64)]⟩], F := fun x => .get (deleteP x.1.1 x.2.1.1 x.2.2.1.1) fun y => .ret (((y, ()), ()), ((), (), (), ())) }
theorem k283_ok : k283.Ok Tryz.prog := con_delete ⟨⟨_, Tryz.func283, by kernel_rfl, by kernel_rfl⟩⟩ del_row
end
end Go.Proofs.YtnnpnkegpkladaaGreat.Dm
