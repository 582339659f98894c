/- Functions of the program, and what they compute. -/
import Derived.Test.YtcpjdjgipmjhdaaGreatQ17
import Derived.Test.YtcpjdjgipmjhdaaGreatQ22
namespace Go.Proofs.YtcpjdjgipmjhdaaGreat.Dm
open Go Go.ChangeShapes Go.WideShapes Go.ChangeAt Go.RowKit
theorem marks_told (nx tk : Int) (pg : List (List InsD)) (ps : List ProcD) (os : List OpenD) (pp : List PipeD) (fl : List FileD) (rd ou : List Int)
    (hz : szcInsSS pg ≤ 1000 ∧ szcProcS ps ≤ 1000 ∧ szcOpenS os ≤ 1000 ∧ szcCpuS pp ≤ 1000 ∧ szcCpuS fl ≤ 1000 ∧ szcIntS rd ≤ 1000 ∧ szcIntS ou ≤ 1000) :
    ∃ (m : Nat) (z : List (List InsD) × List ProcD × List OpenD × List PipeD × List FileD × List Int × List Int), markUnixV nx tk pg ps os pp fl rd ou 1 = some ((1 : Int) + ((m : Nat) : Int), z) ∧
      heldUnixV nx tk z.1 z.2.1 z.2.2.1 z.2.2.2.1 z.2.2.2.2.1 z.2.2.2.2.2.1 z.2.2.2.2.2.2 1 = some ((1 : Int) + ((m : Nat) : Int)) := by
  have g1 := mkcInsSS_le pg
  have g2 := mkcProcS_le ps
  have g3 := mkcOpenS_le os
  have g4 := mkcCpuS_le pp
  have g5 := mkcCpuS_le fl
  have g6 := mkcIntS_le rd
  have g7 := mkcIntS_le ou
  refine ⟨mkcInsSS pg + mkcProcS ps + mkcOpenS os + mkcCpuS pp + mkcCpuS fl + mkcIntS rd + mkcIntS ou, _, mkP_in (by decide) (by omega), ?_⟩
  unfold heldUnixV
  simp only [mkcInsSS_d, mkcProcS_d, mkcOpenS_d, mkcCpuS_d, mkcIntS_d, mkdInsSS_d, mkdProcS_d, mkdOpenS_d, mkdCpuS_d, mkdIntS_d, decide_true, Bool.and_self]
  exact hdP_in (by decide) (by omega)
end Go.Proofs.YtcpjdjgipmjhdaaGreat.Dm
