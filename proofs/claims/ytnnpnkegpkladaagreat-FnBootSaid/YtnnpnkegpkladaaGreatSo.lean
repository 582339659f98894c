/- The data machine, part 42: the library's sort and compact at lists of numbers, as what is told of functions. -/
import Derived.Test.YtnnpnkegpkladaaGreatM4
import Derived.Shelf.Sort.Plain
import Derived.Shelf.Slices.CompactI
namespace Go.Proofs.YtnnpnkegpkladaaGreat.Dm
open Go Go.Sort
variable {z : Fz}
theorem own_ints {w : World} {v : Value} {k : IntKind} {xs : List Int} {f : List Nat} (h : (Ty.sl (.int k)).repO z w [v] xs f) :
    ∃ a cap, v = .slice a xs.length cap ∧ xs.length ≤ cap ∧ xs.length ≤ BIG ∧ ((cap = 0 ∧ f = []) ∨ ∃ b o c E, a = some ⟨b, o, none⟩ ∧ w.heap[b]? = some (.cells c E (0, 0)) ∧ o + cap ≤ c.size ∧ f = [b] ∧
      ∀ (i : Nat) (y : Int), xs[i]? = some y → c[o + i]? = some (.int k y)) := by
  simp only [Ty.repO] at h
  obtain ⟨a, cap, hv, ⟨hc, hb⟩, h⟩ := h
  refine ⟨a, cap, (List.cons.inj hv).1, hc, hb, h.imp id ?_⟩
  rintro ⟨b, o, c, E, fps, ha, hh, ho, hl, hf, hi⟩
  simp only [Ty.size, Nat.mul_one] at ho hi
  have hone : ∀ (i : Nat) (y : Int), xs[i]? = some y → c[o + i]? = some (.int k y) ∧ fps[i]? = some [] := by
    intro i y hy
    have hlt : i < fps.length := by rw [hl]; exact (List.getElem?_eq_some_iff.1 hy).1
    have h1 := hi i y (fps[i]'hlt) hy (List.getElem?_eq_getElem _)
    simp only [cellsAt, hh] at h1
    refine ⟨?_, by rw [List.getElem?_eq_getElem hlt, h1.2]⟩
    have h2 := congrArg (fun l => l[0]?) h1.1
    simp only [List.getElem?_take, List.getElem?_drop] at h2
    simpa using h2
  refine ⟨b, o, c, E, ha, hh, ho, ?_, fun i y hy => (hone i y hy).1⟩
  have : fps.flatten = [] := by
    refine List.flatten_eq_nil_iff.2 fun l hm => ?_
    obtain ⟨i, hlt, rfl⟩ := List.getElem_of_mem hm
    have hx : i < xs.length := Nat.lt_of_lt_of_eq hlt hl
    have := (hone i (xs[i]'hx) (List.getElem?_eq_getElem hx)).2
    rw [List.getElem?_eq_getElem hlt] at this
    exact Option.some.inj this
  rw [hf, this]
theorem own_ints_mk {w : World} {k : IntKind} {xs : List Int} {b o cap : Nat} {c : Array Value} {E : TypeId} (hh : w.heap[b]? = some (.cells c E (0, 0))) (ho : o + cap ≤ c.size) (hc : xs.length ≤ cap) (hb : xs.length ≤ BIG)
    (hi : ∀ (i : Nat) (y : Int), xs[i]? = some y → c[o + i]? = some (.int k y)) : (Ty.sl (.int k)).repO z w [.slice (some ⟨b, o, none⟩) xs.length cap] xs [b] := by
  simp only [Ty.repO, Ty.size, Nat.mul_one]
  refine ⟨_, cap, rfl, ⟨hc, hb⟩, .inr ⟨b, o, c, E, List.replicate xs.length [], rfl, hh, ho, List.length_replicate, ?_, fun i y f hy hf => ?_⟩⟩
  · have : (List.replicate xs.length ([] : List Nat)).flatten = [] := List.flatten_eq_nil_iff.2 fun l hm => (List.mem_replicate.1 hm).2
    rw [this]
  · have hlt : i < xs.length := (List.getElem?_eq_some_iff.1 hy).1
    have h1 := hi i y hy
    have hf : (List.replicate xs.length ([] : List Nat))[i]? = some f := hf
    rw [List.getElem?_replicate, if_pos hlt] at hf
    obtain rfl := Option.some.inj hf
    have hlo : o + i < c.size := (Array.getElem?_eq_some_iff.1 h1).1
    refine ⟨?_, rfl⟩
    simp only [cellsAt, hh]
    apply List.ext_getElem?
    intro j
    cases j with
    | zero => simp only [List.getElem?_take, List.getElem?_drop]; simpa using h1
    | succ j => simp; omega
theorem nil_ints {w : World} {k : IntKind} {a : Option Addr} {cap : Nat} (h : cap = 0) : (Ty.sl (.int k)).repO z w [.slice a 0 cap] ([] : List Int) [] := by
  subst h
  simp only [Ty.repO]
  exact ⟨a, 0, rfl, ⟨Nat.zero_le _, Nat.zero_le _⟩, .inl ⟨rfl, trivial⟩⟩
theorem holds_ints {w : World} {b o : Nat} {c : Array Value} {E : TypeId} {xs : List Int} (hh : w.heap[b]? = some (.cells c E (0, 0))) (hi : ∀ (i : Nat) (y : Int), xs[i]? = some y → c[o + i]? = some (.int .i64 y)) : Holds (Value.int .i64) w b o xs.toArray := by
  intro j hj
  have hj' : j < xs.length := by simpa using hj
  refine ⟨?_, by simp [World.frozen?, hh]⟩
  have h1 := hi j _ (List.getElem?_eq_getElem hj')
  simp only [World.cell?, hh]
  simp only [Option.isSome_none, Bool.false_eq_true, if_false]
  rw [h1]
  simp [hj']
theorem putRow_heap {w : World} {b o n : Nat} {os : Array Obj} {c : Array Value} {E : TypeId} {d : Array Int} (hh : w.heap[b]? = some (.cells c E (0, 0))) :
    (grow (putRow (Value.int .i64) (Sort.ahead w n) b o d) os).heap[b]? = some (.cells (putCells (Value.int .i64) o d c) E (0, 0)) := by
  have hg : b < w.heap.size := (Array.getElem?_eq_some_iff.1 hh).1
  have e : (grow (putRow (Value.int .i64) (Sort.ahead w n) b o d) os).heap = (w.heap.modify b (onCells (putCells (Value.int .i64) o d))) ++ os := rfl
  rw [e, Array.getElem?_append_left (by simpa using hg), Array.getElem?_modify, if_pos rfl, hh]
  rfl
theorem putRow_other {w : World} {b o n b' : Nat} {os : Array Obj} {d : Array Int} (hb : b' < w.heap.size) (hne : b' ≠ b) :
    (grow (putRow (Value.int .i64) (Sort.ahead w n) b o d) os).heap[b']? = w.heap[b']? := by
  have e : (grow (putRow (Value.int .i64) (Sort.ahead w n) b o d) os).heap = (w.heap.modify b (onCells (putCells (Value.int .i64) o d))) ++ os := rfl
  rw [e, Array.getElem?_append_left (by simpa using hb), Array.getElem?_modify, if_neg (Ne.symm hne)]
theorem putRow_size {w : World} {b o n : Nat} {os : Array Obj} {d : Array Int} : w.heap.size ≤ (grow (putRow (Value.int .i64) (Sort.ahead w n) b o d) os).heap.size := by
  have e : (grow (putRow (Value.int .i64) (Sort.ahead w n) b o d) os).heap = (w.heap.modify b (onCells (putCells (Value.int .i64) o d))) ++ os := rfl
  rw [e]; simp
theorem putCells_get {o : Nat} {d : List Int} {c : Array Value} (hc : o + d.length ≤ c.size) (i : Nat) (y : Int) (h : d[i]? = some y) : (putCells (Value.int .i64) o d.toArray c)[o + i]? = some (.int .i64 y) := by
  have hi : i < d.length := (List.getElem?_eq_some_iff.1 h).1
  have hlt : o + i < c.size := by omega
  have hy : d[i]'hi = y := (List.getElem?_eq_some_iff.1 h).2
  unfold putCells
  rw [Array.getElem?_mapIdx, Array.getElem?_eq_getElem hlt]
  simp [hi, hy]
theorem putRow_ev {P : Program} {S : Nat → Prop} {w : World} {hS : SOk S w} {b o n : Nat} {os : Array Obj} {d : Array Int} {c : Array Value} {E : TypeId} (hh : w.heap[b]? = some (.cells c E (0, 0))) (hs : ¬ S b)
    (hfr : ∀ a, a.block < w.heap.size → (grow (putRow (Value.int .i64) (Sort.ahead w n) b o d) os).frozen? a = w.frozen? a) :
    Ev (ctxOf P S w [b] [] (fun _ => undef) default hS) (grow (putRow (Value.int .i64) (Sort.ahead w n) b o d) os) := by
  refine ⟨putRow_size, rfl, rfl, fun b' hb' => putRow_other (hS.1 b' hb') (fun e => hs (e ▸ hb')), fun b' hb' => ?_, hfr⟩
  by_cases e : b' = b
  · subst e
    refine .inr (.inl ⟨c, _, E, hh, putRow_heap hh, by simp [putCells], fun j hj => ?_⟩)
    exact absurd (.inl (by simp)) hj
  · exact .inl (putRow_other hb' e)
structure There (P : Program) (f : Nat) : Prop where
  ex : ∃ fn, P.funcs[f]? = some fn ∧ (fn.name == "runtime.NumGoroutine") = false ∧ fn.body.isNone = false
abbrev sortV (l : List Int) : List Int := l.mergeSort fun x y => decide (x ≤ y)
def sortP (l : List Int) : Option (List Int) := if l.length < 4611686018427387904 then some (sortV l) else none
theorem done_nil {P : Program} {S : Nat → Prop} {w : World} {hS : SOk S w} : Ev (ctxOf P S w [] [] (fun _ => undef) default hS) w :=
  ⟨Nat.le_refl _, rfl, rfl, fun _ _ => rfl, fun _ _ => .inl rfl, fun _ _ => rfl⟩
theorem sortP_get {α : Type} {l : List Int} {g : List Int → α} {y : α} (h : (Out.get (sortP l) fun y => Out.ret (g y)).eval = some y) : l.length < 4611686018427387904 ∧ y = g (sortV l) := by
  unfold sortP at h
  by_cases hl : l.length < 4611686018427387904
  · rw [if_pos hl] at h; exact ⟨hl, (Option.some.inj h).symm⟩
  · rw [if_neg hl] at h; cases h
theorem con_sort {P : Program} {f : Nat} {lend : Bool} (hfn : There P f)
    (h1 : ∀ (blk off cap : Nat) (zs : List Int) (w : World), Holds (Value.int .i64) w blk off zs.toArray → blk < w.heap.size → zs.length < 4611686018427387904 →
      Calls P f #[.slice (some ⟨blk, off, none⟩) zs.length cap] w fun e w' => e = .returned (.tuple #[]) ∧ ∃ n os, w' = grow (putRow (Value.int .i64) (Sort.ahead w n) blk off (zs.mergeSort fun x y => decide (x ≤ y)).toArray) os)
    (h0 : ∀ (p : Option Addr) (cap : Nat) (w : World), Calls P f #[.slice p 0 cap] w fun e w' => e = .returned (.tuple #[]) ∧ w' = w) :
    Con.Ok P { f := f, lend := lend, its := [⟨false, false, [.mut (.int .i64)]⟩], lay := [none], rs := [], F := fun x => .get (sortP x.1.1) fun y => .ret ((), ((y, ()), ())) } := by
  intro x y hy S w hS ivs fp g hrep hnd hns
  obtain ⟨⟨xs, u⟩, u'⟩ := x
  revert xs
  intro (xs : List Int) hy hrep
  obtain ⟨hl, hy⟩ := sortP_get (l := xs) (g := fun y => ((), ((y, ()), ()))) hy
  subst hy
  simp only [ItemsRep, ItemRep, cmRep] at hrep
  obtain ⟨v, _, f1, _, g1, _, rfl, rfl, rfl, ⟨rfl, ⟨v', _, f11, _, hv, rfl, hr, rfl, rfl⟩, _, hone⟩, rfl, rfl, rfl⟩ := hrep
  obtain ⟨a, cap, rfl, hc, hb, hr⟩ := own_ints hr
  have hvv : v = .slice a (List.length xs) cap := by
    have ho := hone trivial
    cases v <;> first | (cases ho; done) | skip
    all_goals first | (simp [Value.cells] at hv; done) | skip
    all_goals simpa [Value.cells] using hv
  subst hvv
  refine ⟨hfn.ex, ?_⟩
  have hargs : (layV [none] [Value.slice a (List.length xs) cap]).toArray = #[.slice a (List.length xs) cap] := rfl
  show Calls P f (layV [none] [Value.slice a (List.length xs) cap]).toArray w _
  rw [hargs]
  rcases hr with ⟨h0c, rfl⟩ | ⟨b, o, c, E, rfl, hh, ho, rfl, hi⟩
  · have hx : xs = [] := List.eq_nil_of_length_eq_zero (by omega)
    subst hx
    refine (h0 a cap w).mono fun e w' he => ?_
    obtain ⟨rfl, rfl⟩ := he
    refine ⟨⟨[], [], [], [], rfl, ⟨S, fun _ h => h, fun b h => ⟨.inl h, hS.1 b h⟩, by simp, ?_, ?_⟩, by simp, by simp⟩, done_nil⟩
    · simp [ItemsRep]
    · simp only [BacksRep, BackRep, backRepV]
      refine ⟨_, _, [], [], rfl, rfl, ⟨.slice a 0 cap, [], [], [], by simp [Value.cells], rfl, ?_, rfl, rfl⟩, rfl, rfl⟩
      have e : sortV [] = [] := by simp [sortV]
      rw [e]
      exact nil_ints h0c
  · have hns' : ¬ S b := hns b (by simp)
    have hlt : b < w.heap.size := (Array.getElem?_eq_some_iff.1 hh).1
    refine (h1 b o cap xs w (holds_ints hh hi) hlt hl).mono fun e w' he => ?_
    obtain ⟨rfl, n, os, rfl⟩ := he
    have hlen : (sortV xs).length = List.length xs := List.length_mergeSort _
    refine ⟨⟨[], [], [], [b], rfl, ⟨S, fun _ h => h, fun b h => ⟨.inl h, Nat.lt_of_lt_of_le (hS.1 b h) putRow_size⟩, by simpa using hns', ?_, ?_⟩, by simp, by simp⟩, putRow_ev hh hns' fun a' ha' => ?_⟩
    · simp [ItemsRep]
    · simp only [BacksRep, BackRep, backRepV]
      refine ⟨_, _, [b], [], rfl, by simp, ⟨_, [], [b], [], by simp [Value.cells]; rfl, by simp, ?_, rfl, rfl⟩, rfl, rfl⟩
      have := own_ints_mk (z := ⟨S, grow (putRow (Value.int .i64) (Sort.ahead w n) b o (sortV xs).toArray) os⟩) (w := grow (putRow (Value.int .i64) (Sort.ahead w n) b o (sortV xs).toArray) os) (k := .i64) (xs := sortV xs) (b := b) (o := o) (cap := cap) (putRow_heap hh) (by simp [putCells]; exact ho) (by omega) (by omega)
        fun i y hy => putCells_get (by omega) i y hy
      rw [hlen] at this
      exact this
    · by_cases e : a'.block = b
      · simp only [World.frozen?]
        rw [e, putRow_heap hh, hh]
      · simp only [World.frozen?]
        rw [putRow_other ha' e]
end Go.Proofs.YtnnpnkegpkladaaGreat.Dm
