/- Functions of the program, and what they compute. -/
import Derived.Test.YtnnpnkegpkladaaGreatQ1
namespace Go.Proofs.YtnnpnkegpkladaaGreat.Dm
open Go Go.ChangeShapes Go.WideShapes Go.ChangeAt Go.RowKit
instance dqIns : DecidableEq InsD := (@instDecidableEqProd _ _ inferInstance (@instDecidableEqProd _ _ inferInstance (@instDecidableEqProd _ _ inferInstance (@instDecidableEqProd _ _ inferInstance inferInstance))))
abbrev CpuD := Int × (List Int × Unit)
instance dqCpu : DecidableEq CpuD := (@instDecidableEqProd _ _ inferInstance (@instDecidableEqProd _ _ inferInstance inferInstance))
abbrev OpenD := Int × (Int × (Int × (Int × (Int × Unit))))
instance dqOpen : DecidableEq OpenD := (@instDecidableEqProd _ _ inferInstance (@instDecidableEqProd _ _ inferInstance (@instDecidableEqProd _ _ inferInstance (@instDecidableEqProd _ _ inferInstance (@instDecidableEqProd _ _ inferInstance inferInstance)))))
abbrev ProcD := Int × (Int × (Int × (Int × (CpuD × (List Int × (List Int × (Int × (Int × Unit))))))))
instance dqProc : DecidableEq ProcD := (@instDecidableEqProd _ _ inferInstance (@instDecidableEqProd _ _ inferInstance (@instDecidableEqProd _ _ inferInstance (@instDecidableEqProd _ _ inferInstance (@instDecidableEqProd _ _ inferInstance (@instDecidableEqProd _ _ inferInstance (@instDecidableEqProd _ _ inferInstance (@instDecidableEqProd _ _ inferInstance (@instDecidableEqProd _ _ inferInstance inferInstance)))))))))
end Go.Proofs.YtnnpnkegpkladaaGreat.Dm
