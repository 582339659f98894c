/- The library's strings.Join, as what is told of a function. -/
import Derived.Test.YtcpjdjgipmjhdaaGreatSo
import Derived.Shelf.Strings.OnBuilder
namespace Go.Proofs.YtcpjdjgipmjhdaaGreat.Dm
open Go Go.RowKit
theorem ro_strs {S : Nat → Prop} {w : World} {v : Value} {xs : List (List UInt8)} (h : (Ty.sl .str).repS S w [v] xs) :
    ∃ a cap, v = .slice a xs.length cap ∧ xs.length ≤ cap ∧ xs.length ≤ BIG ∧ (xs = [] ∨ ∃ b o, a = some ⟨b, o, none⟩ ∧ S b ∧ ∀ (i : Nat) (y : List UInt8), xs[i]? = some y → w.cell? ⟨b, o + i, none⟩ = some (.string ⟨y.toArray⟩)) := by
  simp only [Ty.repS] at h
  obtain ⟨a, cap, hv, ⟨hc, hb⟩, h⟩ := h
  refine ⟨a, cap, (List.cons.inj hv).1, hc, hb, h.imp id ?_⟩
  rintro ⟨b, o, ha, hs, hi⟩
  refine ⟨b, o, ha, hs, fun i y hy => ?_⟩
  have h1 := (hi i y hy).1
  simp only [Ty.size, Nat.mul_one] at h1
  unfold cellsAt at h1
  split at h1
  · rename_i c E fr hh
    have h2 := congrArg (fun l => l[0]?) h1
    simp only [List.getElem?_take, List.getElem?_drop] at h2
    simp at h2
    simp [World.cell?, hh, h2]
  · simp at h1
theorem join_flat : ∀ xs : List (List UInt8), Lib.join xs [] = xs.flatten
  | [] => rfl
  | x :: r => by
    rw [Lib.join_cons]
    unfold Lib.joinTail
    simp
def joinP (xs : List (List UInt8)) (sep : List UInt8) : Option (List UInt8) := if xs.length ≤ 140737488355328 ∧ (Lib.join xs sep).length ≤ 140737488355328 then some (Lib.join xs sep) else none
theorem joinP_get {α : Type} {xs : List (List UInt8)} {sep : List UInt8} {g : List UInt8 → α} {y : α} (h : (Out.get (joinP xs sep) fun y => Out.ret (g y)).eval = some y) : (xs.length ≤ 140737488355328 ∧ (Lib.join xs sep).length ≤ 140737488355328) ∧ y = g (Lib.join xs sep) := by
  unfold joinP at h
  by_cases hl : xs.length ≤ 140737488355328 ∧ (Lib.join xs sep).length ≤ 140737488355328
  · rw [if_pos hl] at h; exact ⟨hl, (Option.some.inj h).symm⟩
  · rw [if_neg hl] at h; cases h
theorem back_bytes (xs : List (List UInt8)) : (xs.map fun y => (⟨y.toArray⟩ : ByteArray)).map (·.data.toList) = xs := by
  rw [List.map_map]
  exact (List.map_congr_left fun _ _ => rfl).trans (List.map_id' xs)
theorem below_ev {P : Program} {S : Nat → Prop} {w w' : World} {hS : ∀ b, S b → b < w.heap.size} (h : Below w.heap.size w w') : Ev (ctxOf P S w [] [] (fun _ => undef) default hS) w' :=
  ⟨h.size, h.os, h.output, fun b hb => h.block b (hS b hb), fun b hb => .inl (h.block b hb), fun a ha => by
    have := h.block a.block ha
    show w'.frozen? a = w.frozen? a
    simp only [World.frozen?, this]⟩
theorem con_join {P : Program} {f : Nat} {lend : Bool} (hfn : There P f)
    (h1 : ∀ (bk o c : Nat) (xs : List ByteArray) (sep : ByteArray) (w : World), (∀ (j : Nat) x, xs[j]? = some x → w.cell? ⟨bk, o + j, none⟩ = some (.string x)) → bk < w.heap.size → xs.length ≤ 140737488355328 → xs.length ≤ c →
      (Lib.join (xs.map (·.data.toList)) sep.data.toList).length ≤ 140737488355328 →
      Calls P f #[.slice (some ⟨bk, o, none⟩) xs.length c, .string sep] w fun e w' => e = .returned (.string ⟨(Lib.join (xs.map (·.data.toList)) sep.data.toList).toArray⟩) ∧ Below w.heap.size w w')
    (h0 : ∀ (a : Option Addr) (c : Nat) (sep : ByteArray) (w : World), Calls P f #[.slice a 0 c, .string sep] w fun e w' => e = .returned (.string ⟨#[]⟩) ∧ w' = w) :
    Con.Ok P { f := f, lend := lend, its := [⟨false, false, [.ro .str]⟩, ⟨false, false, [.s]⟩], lay := [none, none], rs := [⟨false, false, [.s]⟩], F := fun x => .get (joinP x.1.1 x.2.1.1) fun y => .ret (((y, ()), ()), ((), ((), ()))) } := by
  intro x y hy S w hS ivs fp g hrep hnd hns
  obtain ⟨⟨xs, u⟩, ⟨sep, u1⟩, u'⟩ := x
  revert xs
  intro (xs : List (List UInt8)) hy hrep
  obtain ⟨hl, hy⟩ := joinP_get (xs := xs) (sep := sep) (g := fun y => (((y, ()), ()), ((), ((), ())))) hy
  subst hy
  simp only [ItemsRep, ItemRep, cmRep] at hrep
  obtain ⟨v, _, f1, _, g1, _, rfl, rfl, rfl, ⟨rfl, ⟨v', _, hv, hr, rfl, rfl⟩, _, hone⟩, ⟨v2, _, f2, _, g2, _, rfl, rfl, rfl, ⟨rfl, ⟨_, hv2, hb2, rfl, rfl⟩, _, hone2⟩, rfl, rfl, rfl⟩⟩ := hrep
  obtain ⟨a, cap, rfl, hc, hb, hr⟩ := ro_strs hr
  have hvv : v = .slice a (List.length xs) cap := by
    have ho := hone trivial
    cases v <;> first | (cases ho; done) | skip
    all_goals first | (simp [Value.cells] at hv; done) | skip
    all_goals simpa [Value.cells] using hv
  have hvs : v2 = .string ⟨sep.toArray⟩ := by
    have ho := hone2 trivial
    cases v2 <;> first | (cases ho; done) | skip
    all_goals first | (simp [Value.cells] at hv2; done) | skip
    all_goals simpa [Value.cells] using hv2
  subst hvv
  subst hvs
  refine ⟨hfn.ex, ?_⟩
  have hargs : (layV [none, none] [Value.slice a (List.length xs) cap, Value.string ⟨sep.toArray⟩]).toArray = #[.slice a (List.length xs) cap, .string ⟨sep.toArray⟩] := rfl
  show Calls P f (layV [none, none] [Value.slice a (List.length xs) cap, Value.string ⟨sep.toArray⟩]).toArray w _
  rw [hargs]
  have fin : ∀ (t : List UInt8) (w' : World), List.length t ≤ BIG → Below w.heap.size w w' → Done P S w hS { f := f, lend := lend, its := [⟨false, false, [.ro .str]⟩, ⟨false, false, [.s]⟩], lay := [none, none], rs := [⟨false, false, [.s]⟩], F := fun x => .get (joinP x.1.1 x.2.1.1) fun y => .ret (((y, ()), ()), ((), ((), ()))) }
      [Value.slice a (List.length xs) cap, Value.string ⟨sep.toArray⟩] [] [] (((t, ()), ()), ((), ((), ()))) (.string ⟨t.toArray⟩) w' := fun t w' ht hw' => by
    refine ⟨⟨[.string ⟨t.toArray⟩], [], [], [], rfl, ⟨S, fun _ h => h, fun b h => ⟨.inl h, Nat.lt_of_lt_of_le (hS b h) hw'.size⟩, by simp, ?_⟩, ?_, by simp, by simp⟩, below_ev hw'⟩
    · simp only [ItemsRep, ItemRep, cmRep]
      exact ⟨_, _, [], [], [], [], rfl, rfl, rfl, ⟨rfl, ⟨_, rfl, ht, rfl, rfl⟩, by simp, fun _ => rfl⟩, rfl, rfl, rfl⟩
    · simp only [BacksRep, BackRep, backRepV]
      exact ⟨_, _, [], [], rfl, rfl, ⟨.slice a (List.length xs) cap, [], by simp [Value.cells], rfl, rfl⟩, ⟨_, _, [], [], rfl, rfl, ⟨.string ⟨sep.toArray⟩, [], by simp [Value.cells], rfl, rfl⟩, rfl, rfl⟩⟩
  rcases hr with hx | ⟨b, o, rfl, hs, hi⟩
  · subst hx
    refine (h0 a cap ⟨sep.toArray⟩ w).mono fun e w' he => ?_
    obtain ⟨rfl, rfl⟩ := he
    exact fin [] w' (Nat.zero_le _) (Below.refl _ _)
  · have h := h1 b o cap (xs.map fun y => ⟨y.toArray⟩) ⟨sep.toArray⟩ w (fun j x hx => by
      rw [List.getElem?_map] at hx
      cases hj : xs[j]? with
      | none => rw [hj] at hx; exact nomatch hx
      | some y => rw [hj] at hx; obtain rfl := Option.some.inj hx; exact hi j y hj) (hS b hs) (by rw [List.length_map]; exact hl.1) (by rw [List.length_map]; exact hc) (by rw [back_bytes]; exact hl.2)
    rw [List.length_map, back_bytes] at h
    refine h.mono fun e w' he => ?_
    obtain ⟨rfl, hw'⟩ := he
    exact fin _ w' (Nat.le_trans hl.2 (by decide)) hw'
end Go.Proofs.YtcpjdjgipmjhdaaGreat.Dm
