/- Functions of the program, and what they compute. -/
import Derived.Test.YtnglkhjpdpgahaaGreatDoorP2
import Derived.Test.YtnglkhjpdpgahaaGreatDoorIt
namespace Go.Proofs.YtnglkhjpdpgahaaGreatDoor.Dm
open Go Go.ChangeShapes Go.WideShapes Go.ChangeAt Go.RowKit
theorem splitOn_le {c : UInt8} : ∀ (s : Str), ∀ x ∈ splitOn c s, x.length ≤ s.length
  | [], x, h => by simp [splitOn] at h; simp [h]
  | b :: r, x, h => by
    unfold splitOn at h
    split at h
    · rcases List.mem_cons.1 h with rfl | h
      · simp
      · have := splitOn_le r x h; simp only [List.length_cons]; omega
    · split at h
      · rename_i e; exact absurd e (splitOn_ne c r)
      · rename_i y l e
        rcases List.mem_cons.1 h with rfl | h
        · have := splitOn_le r y (by rw [e]; simp); simp only [List.length_cons]; omega
        · have := splitOn_le r x (by rw [e]; simp [h]); simp only [List.length_cons]; omega
theorem own_strs_mk {w : World} {xs : List Str} {b o cap : Nat} {c : Array Value} {E : TypeId} (hh : w.heap[b]? = some (.cells c E (0, 0))) (ho : o + cap ≤ c.size) (hc : xs.length ≤ cap) (hb : xs.length ≤ BIG)
    (hi : ∀ (i : Nat) (y : Str), xs[i]? = some y → c[o + i]? = some (.string ⟨y.toArray⟩) ∧ y.length ≤ BIG) : (Ty.sl .str).repO w [.slice (some ⟨b, o, none⟩) xs.length cap] xs [b] := by
  simp only [Ty.repO, Ty.size, Nat.mul_one]
  refine ⟨_, cap, rfl, ⟨hc, hb⟩, .inr ⟨b, o, c, E, List.replicate xs.length [], rfl, hh, ho, List.length_replicate, ?_, fun i y f hy hf => ?_⟩⟩
  · have : (List.replicate xs.length ([] : List Nat)).flatten = [] := List.flatten_eq_nil_iff.2 fun l hm => (List.mem_replicate.1 hm).2
    rw [this]
  · have hlt : i < xs.length := (List.getElem?_eq_some_iff.1 hy).1
    obtain ⟨h1, h2⟩ := hi i y hy
    have hf : (List.replicate xs.length ([] : List Nat))[i]? = some f := hf
    rw [List.getElem?_replicate, if_pos hlt] at hf
    obtain rfl := Option.some.inj hf
    have hlo : o + i < c.size := (Array.getElem?_eq_some_iff.1 h1).1
    refine ⟨?_, rfl, h2⟩
    simp only [cellsAt, hh]
    apply List.ext_getElem?
    intro j
    cases j with
    | zero => simp only [List.getElem?_take, List.getElem?_drop]; simpa using h1
    | succ j => simp; omega
def splitP (s sep : Str) : Option (List Str) := if s.length ≤ 4000000000 ∧ sep.length = 1 then some (splitOn (sep.headD 0) s) else none
theorem splitP_get {α : Type} {s sep : Str} {g : List Str → α} {y : α} (h : (Out.get (splitP s sep) fun y => Out.ret (g y)).eval = some y) : (s.length ≤ 4000000000 ∧ sep.length = 1) ∧ y = g (splitOn (sep.headD 0) s) := by
  unfold splitP at h
  by_cases hl : s.length ≤ 4000000000 ∧ sep.length = 1
  · rw [if_pos hl] at h; exact ⟨hl, (Option.some.inj h).symm⟩
  · rw [if_neg hl] at h; cases h
theorem con_split {P : Program} {f g : Nat} {lend : Bool} {t : TypeId} (hfn : ThereI P f) (ht : (g, IsInt .i64) ∈ tabs)
    (h1 : ∀ (s sep : ByteArray) (m : Int) (w : World), s.size < 4294967281 → w.cell? ⟨g, 0, none⟩ = some (.int .i64 m) → 1 ≤ sep.size → Calls P f #[.string s, .string sep] w fun e w' =>
      e = .returned (.slice (some ⟨w.heap.size, 0, none⟩) (Lib.countB s sep + 1) (Lib.countB s sep + 1)) ∧ w' = w.alloc (.cells ((Lib.splitB sep 0 (Lib.countB s sep) s).map Value.string).toArray t)) :
    Con.Ok P { f := f, lend := lend, its := [⟨false, false, [.s]⟩, ⟨false, false, [.s]⟩], lay := [none, none], rs := [⟨false, false, [.own .str]⟩], F := fun x => .get (splitP x.1.1 x.2.1.1) fun y => .ret (((y, ()), ()), ((), ((), ()))) } := by
  intro x y hy S w hS ivs fp gg hrep hnd hns
  obtain ⟨⟨s, u⟩, ⟨sep, u1⟩, u'⟩ := x
  obtain ⟨hl, hy⟩ := splitP_get (s := s) (sep := sep) (g := fun y => (((y, ()), ()), ((), ((), ())))) hy
  subst hy
  simp only [ItemsRep, ItemRep, cmRep] at hrep
  obtain ⟨v, _, f1, _, g1, _, rfl, rfl, rfl, ⟨rfl, ⟨_, hv, hb1, rfl, rfl⟩, _, hone⟩, ⟨v2, _, f2, _, g2, _, rfl, rfl, rfl, ⟨rfl, ⟨_, hv2, hb2, rfl, rfl⟩, _, hone2⟩, rfl, rfl, rfl⟩⟩ := hrep
  have str : ∀ {v : Value} {x : Str}, v.oneCell' = true → v.cells.toList = [.string ⟨x.toArray⟩] → v = .string ⟨x.toArray⟩ := fun {v x} ho hv => by
    cases v <;> first | (cases ho; done) | skip
    all_goals first | (simp [Value.cells] at hv; done) | skip
    all_goals simpa [Value.cells] using hv
  obtain rfl := str (hone trivial) hv
  obtain rfl := str (hone2 trivial) hv2
  refine ⟨hfn.ex, ?_⟩
  have hargs : (layV [none, none] [Value.string ⟨s.toArray⟩, Value.string ⟨sep.toArray⟩]).toArray = #[.string ⟨s.toArray⟩, .string ⟨sep.toArray⟩] := rfl
  show Calls P f (layV [none, none] [Value.string ⟨s.toArray⟩, Value.string ⟨sep.toArray⟩]).toArray w _
  rw [hargs]
  obtain ⟨_, o, hh, m, c, E, n, rfl, hc⟩ := hS.2 _ ht
  have hm : w.cell? ⟨g, 0, none⟩ = some (.int .i64 m) := by simp [World.cell?, hh, hc]
  have hsz : ByteArray.size ⟨s.toArray⟩ = s.length := by simp [ByteArray.size]
  have hsz2 : ByteArray.size ⟨sep.toArray⟩ = sep.length := by simp [ByteArray.size]
  obtain ⟨b, rfl⟩ : ∃ b, sep = [b] := List.length_eq_one_iff.1 hl.2
  have hcnt : Lib.countB ⟨s.toArray⟩ ⟨[b].toArray⟩ = List.count b s := Lib.count_one b s
  have hpc : (Lib.splitB ⟨[b].toArray⟩ 0 (List.count b s) ⟨s.toArray⟩).map (·.data.toList) = splitOn b s := by
    rw [Lib.splitB_data]
    exact split_one _ s rfl
  refine (h1 ⟨s.toArray⟩ ⟨[b].toArray⟩ m w (by rw [hsz]; omega) hm (by rw [hsz2]; simp)).mono fun e w' he => ?_
  rw [hcnt] at he
  obtain ⟨rfl, rfl⟩ := he
  have hlen := splitOn_len (c := b) s
  have hnew := heap_alloc_new w (.cells ((Lib.splitB ⟨[b].toArray⟩ 0 (List.count b s) ⟨s.toArray⟩).map Value.string).toArray t)
  have hB : BIG = BIG := rfl
  refine ⟨⟨[.slice (some ⟨w.heap.size, 0, none⟩) (List.count b s + 1) (List.count b s + 1)], [w.heap.size], [], [], rfl, ⟨S, fun _ h => h, fun b' h => ⟨.inl h, by have := hS.1 b' h; simp; omega⟩, ?_, ?_⟩, ?_, by simp, by simp⟩, ?_⟩
  · intro b' hb' hs
    have hb' : b' = w.heap.size := by simpa using hb'
    have := hS.1 b' hs
    omega
  · simp only [ItemsRep, ItemRep, cmRep]
    refine ⟨_, _, [w.heap.size], [], [], [], rfl, rfl, rfl, ⟨rfl, ⟨_, _, [w.heap.size], [], rfl, rfl, ?_, rfl, rfl⟩, by simp, fun _ => rfl⟩, rfl, rfl, rfl⟩
    rw [← hlen]
    have hsl : (Lib.splitB ⟨[b].toArray⟩ 0 (List.count b s) ⟨s.toArray⟩).length = (splitOn b s).length := by rw [← hpc, List.length_map]
    refine own_strs_mk (c := ((Lib.splitB ⟨[b].toArray⟩ 0 (List.count b s) ⟨s.toArray⟩).map Value.string).toArray) (E := t) hnew (by simp [hsl]) (Nat.le_refl _) ?_ fun i y hy => ?_
    · have := List.count_le_length (a := b) (l := s)
      show (splitOn b s).length ≤ BIG
      rw [hlen]
      unfold BIG
      omega
    · have hy : (splitOn b s)[i]? = some y := hy
      rw [← hpc, List.getElem?_map] at hy
      obtain ⟨z, hz, rfl⟩ := Option.map_eq_some_iff.1 hy
      refine ⟨by simp [hz], ?_⟩
      have := splitOn_le s z.data.toList (by rw [← hpc]; exact List.mem_map_of_mem (List.mem_of_getElem? hz))
      unfold BIG
      omega
  · simp only [BacksRep, BackRep, backRepV]
    exact ⟨_, _, [], [], rfl, rfl, ⟨.string ⟨s.toArray⟩, [], by simp [Value.cells], rfl, rfl⟩, ⟨_, _, [], [], rfl, rfl, ⟨.string ⟨[b].toArray⟩, [], by simp [Value.cells], rfl, rfl⟩, rfl, rfl⟩⟩
  · exact (Ev.start (ctxOf P S w [] [] (fun _ => undef) default hS)).alloc _ _
end Go.Proofs.YtnglkhjpdpgahaaGreatDoor.Dm
