/- Functions of the program, and what they compute. -/
import Derived.Test.YtnnpnkegpkladaaGreatQ22
namespace Go.Proofs.YtnnpnkegpkladaaGreat.Dm
open Go Go.ChangeShapes Go.WideShapes Go.ChangeAt Go.RowKit
abbrev ASlotD := Bool × (Int × (Int × (Int × (Int × (Int × (Int × (Int × (List Int × (List Int × (List Int × Unit))))))))))
instance dqASlot : DecidableEq ASlotD := (@instDecidableEqProd _ _ inferInstance (@instDecidableEqProd _ _ inferInstance (@instDecidableEqProd _ _ inferInstance (@instDecidableEqProd _ _ inferInstance (@instDecidableEqProd _ _ inferInstance (@instDecidableEqProd _ _ inferInstance (@instDecidableEqProd _ _ inferInstance (@instDecidableEqProd _ _ inferInstance (@instDecidableEqProd _ _ inferInstance (@instDecidableEqProd _ _ inferInstance (@instDecidableEqProd _ _ inferInstance inferInstance)))))))))))
abbrev AOpenD := Bool × (Int × (Int × (Int × (Int × Unit))))
instance dqAOpen : DecidableEq AOpenD := (@instDecidableEqProd _ _ inferInstance (@instDecidableEqProd _ _ inferInstance (@instDecidableEqProd _ _ inferInstance (@instDecidableEqProd _ _ inferInstance (@instDecidableEqProd _ _ inferInstance inferInstance)))))
abbrev ARingD := Bool × (List Int × (Int × (Int × Unit)))
instance dqARing : DecidableEq ARingD := (@instDecidableEqProd _ _ inferInstance (@instDecidableEqProd _ _ inferInstance (@instDecidableEqProd _ _ inferInstance (@instDecidableEqProd _ _ inferInstance inferInstance))))
abbrev AFileD := Bool × (List Int × Unit)
instance dqAFile : DecidableEq AFileD := (@instDecidableEqProd _ _ inferInstance (@instDecidableEqProd _ _ inferInstance inferInstance))
abbrev BPipeD := Int × (List (List Int) × Unit)
instance dqBPipe : DecidableEq BPipeD := (@instDecidableEqProd _ _ inferInstance (@instDecidableEqProd _ _ inferInstance inferInstance))
abbrev BuddyD := (List (List Int)) × Unit
instance dqBuddy : DecidableEq BuddyD := (@instDecidableEqProd _ _ inferInstance inferInstance)
abbrev ArraysD := Int × (Int × (List (List InsD) × (List ASlotD × (List Int × (List Bool × (List AOpenD × (List ARingD × (List AFileD × (ARingD × (List Int × Unit))))))))))
instance dqArrays : DecidableEq ArraysD := (@instDecidableEqProd _ _ inferInstance (@instDecidableEqProd _ _ inferInstance (@instDecidableEqProd _ _ inferInstance (@instDecidableEqProd _ _ inferInstance (@instDecidableEqProd _ _ inferInstance (@instDecidableEqProd _ _ inferInstance (@instDecidableEqProd _ _ inferInstance (@instDecidableEqProd _ _ inferInstance (@instDecidableEqProd _ _ inferInstance (@instDecidableEqProd _ _ inferInstance (@instDecidableEqProd _ _ inferInstance inferInstance)))))))))))
abbrev NodesD := Int × (Int × (List (List InsD) × (List ProcD × (List Int × (BuddyD × (List OpenD × (List BPipeD × (List CpuD × (List Int × (List Int × Unit))))))))))
instance dqNodes : DecidableEq NodesD := (@instDecidableEqProd _ _ inferInstance (@instDecidableEqProd _ _ inferInstance (@instDecidableEqProd _ _ inferInstance (@instDecidableEqProd _ _ inferInstance (@instDecidableEqProd _ _ inferInstance (@instDecidableEqProd _ _ inferInstance (@instDecidableEqProd _ _ inferInstance (@instDecidableEqProd _ _ inferInstance (@instDecidableEqProd _ _ inferInstance (@instDecidableEqProd _ _ inferInstance (@instDecidableEqProd _ _ inferInstance inferInstance)))))))))))
abbrev LiveD := Int × (ArraysD × (NodesD × Unit))
instance dqLive : DecidableEq LiveD := (@instDecidableEqProd _ _ inferInstance (@instDecidableEqProd _ _ inferInstance (@instDecidableEqProd _ _ inferInstance inferInstance)))
end Go.Proofs.YtnnpnkegpkladaaGreat.Dm
