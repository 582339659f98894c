/- Functions of the program, and what they compute. -/
import Derived.Test.YtcpjdjgipmjhdaaGreatQ53
namespace Go.Proofs.YtcpjdjgipmjhdaaGreat.Dm
open Go Go.ChangeShapes Go.WideShapes Go.ChangeAt Go.RowKit
theorem proc_small {next tick : Int} {progs : List (List InsD)} {ps : List ProcD} {os : List OpenD} {pipes : List PipeD} {files : List FileD} {rd out : List Int} (h : unixOkV next tick progs ps os pipes files rd out = true) {p : ProcD} (hp : p ∈ ps) :
    p.2.2.2.2.1.2.1.length = 4 ∧ p.2.2.2.2.2.1.length ≤ 12 ∧ p.2.2.2.2.2.2.1.length = 4 := by
  unfold unixOkV at h
  simp only [Bool.and_eq_true] at h
  have := List.all_eq_true.1 (rows_all h.1.1.2) p hp
  unfold procInV proc1V procOkV cpuOkV at this
  simp only [Bool.and_eq_true, decide_eq_true_eq] at this
  exact ⟨this.2.1.1.1.1.1.1.1.1.1.2.1.2, this.2.1.1.1.1.1.1.1.1.2, this.2.1.1.1.1.1.2⟩
end Go.Proofs.YtcpjdjgipmjhdaaGreat.Dm
