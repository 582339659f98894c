/- The library's strconv.Itoa, as what is told of a function: it reads a table of the library's. -/
import Derived.Test.YtnglkhjpdpgahaaGreatDoorM4
import Derived.Lib.ItoaLen
import Derived.Lib.AppendIntMem
namespace Go.Proofs.YtnglkhjpdpgahaaGreatDoor.Dm
open Go Go.RowKit Go.Sort
structure ThereI (P : Program) (f : Nat) : Prop where
  ex : ∃ fn, P.funcs[f]? = some fn ∧ (fn.name == "runtime.NumGoroutine") = false ∧ fn.body.isNone = false
abbrev In64 (n : Int) : Prop := -9223372036854775808 ≤ n ∧ n ≤ 9223372036854775807
def itoaP (n : Int) : Option (List UInt8) := if In64 n then some (Lib.itoa n) else none
theorem itoaP_get {α : Type} {n : Int} {g : List UInt8 → α} {y : α} (h : (Out.get (itoaP n) fun y => Out.ret (g y)).eval = some y) : In64 n ∧ y = g (Lib.itoa n) := by
  unfold itoaP at h
  by_cases hl : In64 n
  · rw [if_pos hl] at h; exact ⟨hl, (Option.some.inj h).symm⟩
  · rw [if_neg hl] at h; cases h
theorem below_evI {P : Program} {S : Nat → Prop} {w w' : World} {hS : SOk S w} (h : Below w.heap.size w w') : Ev (ctxOf P S w [] [] (fun _ => undef) default hS) w' :=
  ⟨h.size, h.os, h.output, fun b hb => h.block b (hS.1 b hb), fun b hb => .inl (h.block b hb), fun a ha => by
    have := h.block a.block ha
    show w'.frozen? a = w.frozen? a
    simp only [World.frozen?, this]⟩
theorem con_itoa {P : Program} {f g : Nat} {lend : Bool} (hfn : ThereI P f) (hg : P.globalNamed "internal/strconv.uint64pow10" = some g) (ht : (g, IsTab (Lib.pow10Tab.map fun z => Value.int .u64 z).toArray) ∈ tabs)
    (h1 : ∀ (n : Int) (_ : -9223372036854775808 ≤ n) (_ : n ≤ 9223372036854775807) (w : World) (_ : Lib.TabIs P w "internal/strconv.uint64pow10" .u64 Lib.pow10Tab), Calls P f #[.int .i64 n] w fun e w' => e = .returned (.string ⟨(Lib.itoa n).toArray⟩) ∧ ∃ k os, w' = grow (w.drewN k) os) :
    Con.Ok P { f := f, lend := lend, its := [⟨false, false, [.i .i64]⟩], lay := [none], rs := [⟨false, false, [.s]⟩], F := fun x => .get (itoaP x.1.1) fun y => .ret (((y, ()), ()), ((), ())) } := by
  intro x y hy S w hS ivs fp g' hrep hnd hns
  obtain ⟨⟨n, u⟩, u'⟩ := x
  revert n
  intro (n : Int) hy hrep
  obtain ⟨hl, hy⟩ := itoaP_get (n := n) (g := fun y => (((y, ()), ()), ((), ()))) hy
  subst hy
  simp only [ItemsRep, ItemRep, cmRep] at hrep
  obtain ⟨v, _, f1, _, g1, _, rfl, rfl, rfl, ⟨rfl, ⟨_, hv, rfl, rfl⟩, _, hone⟩, rfl, rfl, rfl⟩ := hrep
  have hvv : v = .int .i64 n := by
    have ho := hone trivial
    cases v <;> first | (cases ho; done) | skip
    all_goals first | (simp [Value.cells] at hv; done) | skip
    all_goals simpa [Value.cells] using hv
  subst hvv
  refine ⟨hfn.ex, ?_⟩
  have hargs : (layV [none] [Value.int .i64 n]).toArray = #[.int .i64 n] := rfl
  show Calls P f (layV [none] [Value.int .i64 n]).toArray w _
  rw [hargs]
  have htab : Lib.TabIs P w "internal/strconv.uint64pow10" .u64 Lib.pow10Tab := by
    obtain ⟨_, o, hh, E, m, rfl⟩ := hS.2 _ ht
    show w.var? P _ = _
    unfold World.var?
    rw [hg]
    simp only [Option.bind_some]
    rw [hh]
  refine (h1 n hl.1 hl.2 w htab).mono fun e w' he => ?_
  obtain ⟨rfl, k, os, rfl⟩ := he
  have hb : Below w.heap.size w (grow (w.drewN k) os) := Lib.below_grow _ w (Nat.le_refl _) k os
  refine ⟨⟨[.string ⟨(Lib.itoa n).toArray⟩], [], [], [], rfl, ⟨S, fun _ h => h, fun b h => ⟨.inl h, Nat.lt_of_lt_of_le (hS.1 b h) hb.size⟩, by simp, ?_⟩, ?_, by simp, by simp⟩, below_evI hb⟩
  · simp only [ItemsRep, ItemRep, cmRep]
    exact ⟨_, _, [], [], [], [], rfl, rfl, rfl, ⟨rfl, ⟨_, rfl, Nat.le_trans (Lib.itoa_length_le n hl.1 hl.2) (by decide), rfl, rfl⟩, by simp, fun _ => rfl⟩, rfl, rfl, rfl⟩
  · simp only [BacksRep, BackRep, backRepV]
    exact ⟨_, _, [], [], rfl, rfl, ⟨.int .i64 n, [], by simp [Value.cells], rfl, rfl⟩, rfl, rfl⟩
end Go.Proofs.YtnglkhjpdpgahaaGreatDoor.Dm
