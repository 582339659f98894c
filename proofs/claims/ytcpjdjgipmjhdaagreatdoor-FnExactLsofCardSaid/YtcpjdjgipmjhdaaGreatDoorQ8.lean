/- Functions of the program, and what they compute. -/
import Derived.Test.YtcpjdjgipmjhdaaGreatDoorQ7
import Derived.Test.YtcpjdjgipmjhdaaGreatDoorJn
import Derived.Test.YtcpjdjgipmjhdaaGreatDoorShelf
namespace Go.Proofs.YtcpjdjgipmjhdaaGreatDoor.Dm
open Go Go.ChangeShapes Go.WideShapes Go.ChangeAt Go.RowKit
theorem cond_lim {α : Type} {n : Nat} {a b : α} (h : n ≤ 1000000) : (bif decide (n ≤ LIM) then a else b) = a := by rw [decide_eq_true (by rw [LIM_eq]; omega)]; rfl
theorem unix_parts {next tick : Int} {progs : List (List InsD)} {ps : List ProcD} {os : List OpenD} {pipes : List PipeD} {files : List FileD} {rd out : List Int} (h : unixOkV next tick progs ps os pipes files rd out = true) :
    progs.length ≤ 4 ∧ (∀ x ∈ progs, progOkV x = true) ∧ ps.length ≤ 6 ∧ os.length ≤ 8 ∧ pipes.length ≤ 3 ∧ (∀ x ∈ pipes, x.2.1.length ≤ 4) ∧ files.length ≤ 6 ∧ (∀ x ∈ files, x.2.1.length ≤ 8) ∧ rd.length ≤ 6 ∧ out.length ≤ 60 ∧ ∀ x ∈ rd, 1 ≤ x ∧ x ≤ 100000 := by
  have h0 := h
  unfold unixOkV thingsV progsOkV readyV at h
  simp only [Bool.and_eq_true, decide_eq_true_eq] at h
  obtain ⟨⟨⟨⟨⟨⟨⟨⟨⟨n1, t1⟩, ⟨p1, p2⟩, p3⟩, o1⟩, o2⟩, q1⟩, q2⟩, r1⟩, ⟨⟨⟨⟨⟨k1, k2⟩, k3⟩, k4⟩, k5⟩, k6⟩⟩, ⟨w1, w2⟩⟩ := h
  have hf := List.all_eq_true.1 (rows_all k6)
  have hpi := List.all_eq_true.1 (rows_all k5)
  have hpr := List.all_eq_true.1 (rows_all r1)
  have hle : (readyPids ps).length ≤ ps.length := by unfold readyPids; rw [List.length_map]; exact List.length_filter_le _ _
  refine ⟨p2, List.all_eq_true.1 p3, q1, k1, k2, fun x hx => ?_, k3, fun x hx => ?_, by omega, o1, fun x hx => ?_⟩
  · have := hpi x hx
    unfold pipe1V at this
    simp only [Bool.and_eq_true, decide_eq_true_eq] at this
    exact this.1.1.2
  · have := hf x hx
    unfold file1V at this
    simp only [Bool.and_eq_true, decide_eq_true_eq] at this
    exact this.2.1
  · have hn : (readyPids ps).Nodup := (readyPids_rise r1).imp fun h e => by omega
    have hp := perm_of_sub hn (fun y hy => hasV_iff.1 (List.all_eq_true.1 w1 y hy)) w2
    have hx2 := hp.mem_iff.2 hx
    unfold readyPids at hx2
    obtain ⟨p, hp1, rfl⟩ := List.mem_map.1 hx2
    have := hpr p (List.mem_filter.1 hp1).1
    unfold procInV at this
    rw [Bool.and_eq_true] at this
    have h1 := this.1
    have hnx : 1 ≤ next ∧ next ≤ 100000 := by simpa [inV] using n1
    rw [wrap_id (n := next - 1) (by omega) (by omega)] at h1
    have h2 : 1 ≤ p.1 ∧ p.1 ≤ next - 1 := by simpa [inV] using h1
    unfold procKey
    omega
end Go.Proofs.YtcpjdjgipmjhdaaGreatDoor.Dm
