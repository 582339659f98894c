/-
  No cell of these rows narrows 'for every input' (looked for: loops, veiled, ifaces, maps, wideKeys, modest, calm, conditions, laid).
  DERIVED. THE GIVEN ROWS OF THIS SEAT. 23 by the template 'for every input the law returns true; each argument reads behind the call as it read before'; 0 by the template 'total and deterministic' (their statements: YtjcinikojcfebaaTotals.lean).
  GIVEN WITH THE SEED: the statements are not yours to turn. If you find one false, say at which input.
  Laid BY PROGRAM, IN A SANDBOX (cutbox-rows.mjs): the forced cells as the released guide's own fill.sh prints them over the translation 4847d29035bec0ad… (all of the seat's roots in one cut). By AI agents, Wed Nov 11 2026. No macro, syntax, notation, axiom, sorry.
-/
import Derived.Test.YtjcinikojcfebaaChecked
import GoSem.Claim
import GoSem.ClaimJoined
import GoSem.ClaimMapViews
import Derived.JoinedTies
import Derived.KernelRfl
namespace Go.Proofs.Ytjcinikojcfebaa
/- THE CELL 'sum', in the pinned program and in every row, IS THE sha256 OF THE DUMP (.gsa) THAT YtjcinikojcfebaaProg.lean LOADS. Nothing in Lean hashes anything: it is a label: what it is worth is what the hold of that sum in a sandbox is worth. -/
noncomputable def Try.pinned : Pinned := { name := "ytjcinikojcfebaa", sum := "4847d29035bec0ad102028b41282e126d92ea453468886eae2a657e4d1caa62f", checked := Try.checked }
namespace Rows
def none {H : Type} : Left H := { results := [], args := [] }

/-- 'laws.FnExactNewDisk': WHATEVER THE INPUT: true; the input reads as it did. -/
def fnExactNewDiskSpec : ChangeSpec := { name := "fnExactNewDisk", fn := fun _ => fun
  | [] => { results := [.lit (.bool true)], args := [] }
  | _ => none }
def fnExactNewDiskRow : OpenClaim := { program := "ytjcinikojcfebaa", sum := "4847d29035bec0ad102028b41282e126d92ea453468886eae2a657e4d1caa62f", func := "loop.example/g00781/laws.FnExactNewDisk", spec := "fnExactNewDisk", apart := false }
def FnExactNewDiskSaid : Prop := fnExactNewDiskRow.holds Try.pinned (OpenSpec.ofChange fnExactNewDiskSpec)

/-- ITS FALSE NEIGHBOUR: 'it returns false'. Refute it at one input. -/
def fnExactNewDiskWrong : ChangeSpec := { name := "fnExactNewDisk", fn := fun _ => fun
  | [] => { results := [.lit (.bool false)], args := [] }
  | _ => none }
def FnExactNewDiskWrongFalsely : Prop := fnExactNewDiskRow.holds Try.pinned (OpenSpec.ofChange fnExactNewDiskWrong)

/-- 'laws.FnExactSameView': WHATEVER THE INPUT: true; the input reads as it did. -/
def fnExactSameViewSpec : ChangeSpec := { name := "fnExactSameView", fn := fun _ => fun
  | [d1, d2] => { results := [.lit (.bool true)], args := [d1, d2] }
  | _ => none }
def fnExactSameViewRow : OpenClaim := { program := "ytjcinikojcfebaa", sum := "4847d29035bec0ad102028b41282e126d92ea453468886eae2a657e4d1caa62f", func := "loop.example/g00781/laws.FnExactSameView", spec := "fnExactSameView", apart := false }
def FnExactSameViewSaid : Prop := fnExactSameViewRow.holds Try.pinned (OpenSpec.ofChange fnExactSameViewSpec)

/-- ITS FALSE NEIGHBOUR: 'it returns false'. Refute it at one input. -/
def fnExactSameViewWrong : ChangeSpec := { name := "fnExactSameView", fn := fun _ => fun
  | [d1, d2] => { results := [.lit (.bool false)], args := [d1, d2] }
  | _ => none }
def FnExactSameViewWrongFalsely : Prop := fnExactSameViewRow.holds Try.pinned (OpenSpec.ofChange fnExactSameViewWrong)

/-- 'laws.FnExactDiskOk': WHATEVER THE INPUT: true; the input reads as it did. -/
def fnExactDiskOkSpec : ChangeSpec := { name := "fnExactDiskOk", fn := fun _ => fun
  | [d] => { results := [.lit (.bool true)], args := [d] }
  | _ => none }
def fnExactDiskOkRow : OpenClaim := { program := "ytjcinikojcfebaa", sum := "4847d29035bec0ad102028b41282e126d92ea453468886eae2a657e4d1caa62f", func := "loop.example/g00781/laws.FnExactDiskOk", spec := "fnExactDiskOk", unfollowed := true, recurses := true, apart := false }
def FnExactDiskOkSaid : Prop := fnExactDiskOkRow.holds Try.pinned (OpenSpec.ofChange fnExactDiskOkSpec)

/-- ITS FALSE NEIGHBOUR: 'it returns false'. Refute it at one input. -/
def fnExactDiskOkWrong : ChangeSpec := { name := "fnExactDiskOk", fn := fun _ => fun
  | [d] => { results := [.lit (.bool false)], args := [d] }
  | _ => none }
def FnExactDiskOkWrongFalsely : Prop := fnExactDiskOkRow.holds Try.pinned (OpenSpec.ofChange fnExactDiskOkWrong)

/-- 'laws.FnExactShowTxn': WHATEVER THE INPUT: true; the input reads as it did. -/
def fnExactShowTxnSpec : ChangeSpec := { name := "fnExactShowTxn", fn := fun _ => fun
  | [d] => { results := [.lit (.bool true)], args := [d] }
  | _ => none }
def fnExactShowTxnRow : OpenClaim := { program := "ytjcinikojcfebaa", sum := "4847d29035bec0ad102028b41282e126d92ea453468886eae2a657e4d1caa62f", func := "loop.example/g00781/laws.FnExactShowTxn", spec := "fnExactShowTxn", apart := false }
def FnExactShowTxnSaid : Prop := fnExactShowTxnRow.holds Try.pinned (OpenSpec.ofChange fnExactShowTxnSpec)

/-- ITS FALSE NEIGHBOUR: 'it returns false'. Refute it at one input. -/
def fnExactShowTxnWrong : ChangeSpec := { name := "fnExactShowTxn", fn := fun _ => fun
  | [d] => { results := [.lit (.bool false)], args := [d] }
  | _ => none }
def FnExactShowTxnWrongFalsely : Prop := fnExactShowTxnRow.holds Try.pinned (OpenSpec.ofChange fnExactShowTxnWrong)

/-- 'laws.FnDisk': WHATEVER THE INPUT: true; the input reads as it did. -/
def fnDiskSpec : ChangeSpec := { name := "fnDisk", fn := fun _ => fun
  | [d] => { results := [.lit (.bool true)], args := [d] }
  | _ => none }
def fnDiskRow : OpenClaim := { program := "ytjcinikojcfebaa", sum := "4847d29035bec0ad102028b41282e126d92ea453468886eae2a657e4d1caa62f", func := "loop.example/g00781/laws.FnDisk", spec := "fnDisk", unfollowed := true, recurses := true, apart := false }
def FnDiskSaid : Prop := fnDiskRow.holds Try.pinned (OpenSpec.ofChange fnDiskSpec)

/-- ITS FALSE NEIGHBOUR: 'it returns false'. Refute it at one input. -/
def fnDiskWrong : ChangeSpec := { name := "fnDisk", fn := fun _ => fun
  | [d] => { results := [.lit (.bool false)], args := [d] }
  | _ => none }
def FnDiskWrongFalsely : Prop := fnDiskRow.holds Try.pinned (OpenSpec.ofChange fnDiskWrong)

/-- 'laws.FnExactNewSaver': WHATEVER THE INPUT: true; the input reads as it did. -/
def fnExactNewSaverSpec : ChangeSpec := { name := "fnExactNewSaver", fn := fun _ => fun
  | [] => { results := [.lit (.bool true)], args := [] }
  | _ => none }
def fnExactNewSaverRow : OpenClaim := { program := "ytjcinikojcfebaa", sum := "4847d29035bec0ad102028b41282e126d92ea453468886eae2a657e4d1caa62f", func := "loop.example/g00781/laws.FnExactNewSaver", spec := "fnExactNewSaver", apart := false }
def FnExactNewSaverSaid : Prop := fnExactNewSaverRow.holds Try.pinned (OpenSpec.ofChange fnExactNewSaverSpec)

/-- ITS FALSE NEIGHBOUR: 'it returns false'. Refute it at one input. -/
def fnExactNewSaverWrong : ChangeSpec := { name := "fnExactNewSaver", fn := fun _ => fun
  | [] => { results := [.lit (.bool false)], args := [] }
  | _ => none }
def FnExactNewSaverWrongFalsely : Prop := fnExactNewSaverRow.holds Try.pinned (OpenSpec.ofChange fnExactNewSaverWrong)

/-- 'laws.FnExactFileBlocks': WHATEVER THE INPUT: true; the input reads as it did. -/
def fnExactFileBlocksSpec : ChangeSpec := { name := "fnExactFileBlocks", fn := fun _ => fun
  | [d] => { results := [.lit (.bool true)], args := [d] }
  | _ => none }
def fnExactFileBlocksRow : OpenClaim := { program := "ytjcinikojcfebaa", sum := "4847d29035bec0ad102028b41282e126d92ea453468886eae2a657e4d1caa62f", func := "loop.example/g00781/laws.FnExactFileBlocks", spec := "fnExactFileBlocks", unfollowed := true, recurses := true, apart := false }
def FnExactFileBlocksSaid : Prop := fnExactFileBlocksRow.holds Try.pinned (OpenSpec.ofChange fnExactFileBlocksSpec)

/-- ITS FALSE NEIGHBOUR: 'it returns false'. Refute it at one input. -/
def fnExactFileBlocksWrong : ChangeSpec := { name := "fnExactFileBlocks", fn := fun _ => fun
  | [d] => { results := [.lit (.bool false)], args := [d] }
  | _ => none }
def FnExactFileBlocksWrongFalsely : Prop := fnExactFileBlocksRow.holds Try.pinned (OpenSpec.ofChange fnExactFileBlocksWrong)

/-- 'laws.FnExactPut': WHATEVER THE INPUT: true; the input reads as it did. -/
def fnExactPutSpec : ChangeSpec := { name := "fnExactPut", fn := fun _ => fun
  | [d1, d2] => { results := [.lit (.bool true)], args := [d1, d2] }
  | _ => none }
def fnExactPutRow : OpenClaim := { program := "ytjcinikojcfebaa", sum := "4847d29035bec0ad102028b41282e126d92ea453468886eae2a657e4d1caa62f", func := "loop.example/g00781/laws.FnExactPut", spec := "fnExactPut", unfollowed := true, recurses := true, apart := false }
def FnExactPutSaid : Prop := fnExactPutRow.holds Try.pinned (OpenSpec.ofChange fnExactPutSpec)

/-- ITS FALSE NEIGHBOUR: 'it returns false'. Refute it at one input. -/
def fnExactPutWrong : ChangeSpec := { name := "fnExactPut", fn := fun _ => fun
  | [d1, d2] => { results := [.lit (.bool false)], args := [d1, d2] }
  | _ => none }
def FnExactPutWrongFalsely : Prop := fnExactPutRow.holds Try.pinned (OpenSpec.ofChange fnExactPutWrong)

/-- 'laws.FnExactFlush': WHATEVER THE INPUT: true; the input reads as it did. -/
def fnExactFlushSpec : ChangeSpec := { name := "fnExactFlush", fn := fun _ => fun
  | [d] => { results := [.lit (.bool true)], args := [d] }
  | _ => none }
def fnExactFlushRow : OpenClaim := { program := "ytjcinikojcfebaa", sum := "4847d29035bec0ad102028b41282e126d92ea453468886eae2a657e4d1caa62f", func := "loop.example/g00781/laws.FnExactFlush", spec := "fnExactFlush", unfollowed := true, recurses := true, apart := false }
def FnExactFlushSaid : Prop := fnExactFlushRow.holds Try.pinned (OpenSpec.ofChange fnExactFlushSpec)

/-- ITS FALSE NEIGHBOUR: 'it returns false'. Refute it at one input. -/
def fnExactFlushWrong : ChangeSpec := { name := "fnExactFlush", fn := fun _ => fun
  | [d] => { results := [.lit (.bool false)], args := [d] }
  | _ => none }
def FnExactFlushWrongFalsely : Prop := fnExactFlushRow.holds Try.pinned (OpenSpec.ofChange fnExactFlushWrong)

/-- 'laws.FnExactFall': WHATEVER THE INPUT: true; the input reads as it did. -/
def fnExactFallSpec : ChangeSpec := { name := "fnExactFall", fn := fun _ => fun
  | [d1, d2] => { results := [.lit (.bool true)], args := [d1, d2] }
  | _ => none }
def fnExactFallRow : OpenClaim := { program := "ytjcinikojcfebaa", sum := "4847d29035bec0ad102028b41282e126d92ea453468886eae2a657e4d1caa62f", func := "loop.example/g00781/laws.FnExactFall", spec := "fnExactFall", unfollowed := true, recurses := true, apart := false }
def FnExactFallSaid : Prop := fnExactFallRow.holds Try.pinned (OpenSpec.ofChange fnExactFallSpec)

/-- ITS FALSE NEIGHBOUR: 'it returns false'. Refute it at one input. -/
def fnExactFallWrong : ChangeSpec := { name := "fnExactFall", fn := fun _ => fun
  | [d1, d2] => { results := [.lit (.bool false)], args := [d1, d2] }
  | _ => none }
def FnExactFallWrongFalsely : Prop := fnExactFallRow.holds Try.pinned (OpenSpec.ofChange fnExactFallWrong)

/-- 'laws.FnExactReadProg': WHATEVER THE INPUT: true; the input reads as it did. -/
def fnExactReadProgSpec : ChangeSpec := { name := "fnExactReadProg", fn := fun _ => fun
  | [d] => { results := [.lit (.bool true)], args := [d] }
  | _ => none }
def fnExactReadProgRow : OpenClaim := { program := "ytjcinikojcfebaa", sum := "4847d29035bec0ad102028b41282e126d92ea453468886eae2a657e4d1caa62f", func := "loop.example/g00781/laws.FnExactReadProg", spec := "fnExactReadProg", unfollowed := true, recurses := true, apart := false }
def FnExactReadProgSaid : Prop := fnExactReadProgRow.holds Try.pinned (OpenSpec.ofChange fnExactReadProgSpec)

/-- ITS FALSE NEIGHBOUR: 'it returns false'. Refute it at one input. -/
def fnExactReadProgWrong : ChangeSpec := { name := "fnExactReadProg", fn := fun _ => fun
  | [d] => { results := [.lit (.bool false)], args := [d] }
  | _ => none }
def FnExactReadProgWrongFalsely : Prop := fnExactReadProgRow.holds Try.pinned (OpenSpec.ofChange fnExactReadProgWrong)

/-- 'laws.FnExactSaverOk': WHATEVER THE INPUT: true; the input reads as it did. -/
def fnExactSaverOkSpec : ChangeSpec := { name := "fnExactSaverOk", fn := fun _ => fun
  | [d] => { results := [.lit (.bool true)], args := [d] }
  | _ => none }
def fnExactSaverOkRow : OpenClaim := { program := "ytjcinikojcfebaa", sum := "4847d29035bec0ad102028b41282e126d92ea453468886eae2a657e4d1caa62f", func := "loop.example/g00781/laws.FnExactSaverOk", spec := "fnExactSaverOk", unfollowed := true, recurses := true, apart := false }
def FnExactSaverOkSaid : Prop := fnExactSaverOkRow.holds Try.pinned (OpenSpec.ofChange fnExactSaverOkSpec)

/-- ITS FALSE NEIGHBOUR: 'it returns false'. Refute it at one input. -/
def fnExactSaverOkWrong : ChangeSpec := { name := "fnExactSaverOk", fn := fun _ => fun
  | [d] => { results := [.lit (.bool false)], args := [d] }
  | _ => none }
def FnExactSaverOkWrongFalsely : Prop := fnExactSaverOkRow.holds Try.pinned (OpenSpec.ofChange fnExactSaverOkWrong)

/-- 'laws.FnExactReadTxn': WHATEVER THE INPUT: true; the input reads as it did. -/
def fnExactReadTxnSpec : ChangeSpec := { name := "fnExactReadTxn", fn := fun _ => fun
  | [d] => { results := [.lit (.bool true)], args := [d] }
  | _ => none }
def fnExactReadTxnRow : OpenClaim := { program := "ytjcinikojcfebaa", sum := "4847d29035bec0ad102028b41282e126d92ea453468886eae2a657e4d1caa62f", func := "loop.example/g00781/laws.FnExactReadTxn", spec := "fnExactReadTxn", apart := false }
def FnExactReadTxnSaid : Prop := fnExactReadTxnRow.holds Try.pinned (OpenSpec.ofChange fnExactReadTxnSpec)

/-- ITS FALSE NEIGHBOUR: 'it returns false'. Refute it at one input. -/
def fnExactReadTxnWrong : ChangeSpec := { name := "fnExactReadTxn", fn := fun _ => fun
  | [d] => { results := [.lit (.bool false)], args := [d] }
  | _ => none }
def FnExactReadTxnWrongFalsely : Prop := fnExactReadTxnRow.holds Try.pinned (OpenSpec.ofChange fnExactReadTxnWrong)

/-- 'laws.FnExactReadFileBlocks': WHATEVER THE INPUT: true; the input reads as it did. -/
def fnExactReadFileBlocksSpec : ChangeSpec := { name := "fnExactReadFileBlocks", fn := fun _ => fun
  | [d] => { results := [.lit (.bool true)], args := [d] }
  | _ => none }
def fnExactReadFileBlocksRow : OpenClaim := { program := "ytjcinikojcfebaa", sum := "4847d29035bec0ad102028b41282e126d92ea453468886eae2a657e4d1caa62f", func := "loop.example/g00781/laws.FnExactReadFileBlocks", spec := "fnExactReadFileBlocks", unfollowed := true, recurses := true, apart := false }
def FnExactReadFileBlocksSaid : Prop := fnExactReadFileBlocksRow.holds Try.pinned (OpenSpec.ofChange fnExactReadFileBlocksSpec)

/-- ITS FALSE NEIGHBOUR: 'it returns false'. Refute it at one input. -/
def fnExactReadFileBlocksWrong : ChangeSpec := { name := "fnExactReadFileBlocks", fn := fun _ => fun
  | [d] => { results := [.lit (.bool false)], args := [d] }
  | _ => none }
def FnExactReadFileBlocksWrongFalsely : Prop := fnExactReadFileBlocksRow.holds Try.pinned (OpenSpec.ofChange fnExactReadFileBlocksWrong)

/-- 'laws.FnTxn': WHATEVER THE INPUT: true; the input reads as it did. -/
def fnTxnSpec : ChangeSpec := { name := "fnTxn", fn := fun _ => fun
  | [d] => { results := [.lit (.bool true)], args := [d] }
  | _ => none }
def fnTxnRow : OpenClaim := { program := "ytjcinikojcfebaa", sum := "4847d29035bec0ad102028b41282e126d92ea453468886eae2a657e4d1caa62f", func := "loop.example/g00781/laws.FnTxn", spec := "fnTxn", apart := false }
def FnTxnSaid : Prop := fnTxnRow.holds Try.pinned (OpenSpec.ofChange fnTxnSpec)

/-- ITS FALSE NEIGHBOUR: 'it returns false'. Refute it at one input. -/
def fnTxnWrong : ChangeSpec := { name := "fnTxn", fn := fun _ => fun
  | [d] => { results := [.lit (.bool false)], args := [d] }
  | _ => none }
def FnTxnWrongFalsely : Prop := fnTxnRow.holds Try.pinned (OpenSpec.ofChange fnTxnWrong)

/-- 'laws.FnBlocks': WHATEVER THE INPUT: true; the input reads as it did. -/
def fnBlocksSpec : ChangeSpec := { name := "fnBlocks", fn := fun _ => fun
  | [d] => { results := [.lit (.bool true)], args := [d] }
  | _ => none }
def fnBlocksRow : OpenClaim := { program := "ytjcinikojcfebaa", sum := "4847d29035bec0ad102028b41282e126d92ea453468886eae2a657e4d1caa62f", func := "loop.example/g00781/laws.FnBlocks", spec := "fnBlocks", unfollowed := true, recurses := true, apart := false }
def FnBlocksSaid : Prop := fnBlocksRow.holds Try.pinned (OpenSpec.ofChange fnBlocksSpec)

/-- ITS FALSE NEIGHBOUR: 'it returns false'. Refute it at one input. -/
def fnBlocksWrong : ChangeSpec := { name := "fnBlocks", fn := fun _ => fun
  | [d] => { results := [.lit (.bool false)], args := [d] }
  | _ => none }
def FnBlocksWrongFalsely : Prop := fnBlocksRow.holds Try.pinned (OpenSpec.ofChange fnBlocksWrong)

/-- 'laws.FnExactTouched': WHATEVER THE INPUT: true; the input reads as it did. -/
def fnExactTouchedSpec : ChangeSpec := { name := "fnExactTouched", fn := fun _ => fun
  | [d] => { results := [.lit (.bool true)], args := [d] }
  | _ => none }
def fnExactTouchedRow : OpenClaim := { program := "ytjcinikojcfebaa", sum := "4847d29035bec0ad102028b41282e126d92ea453468886eae2a657e4d1caa62f", func := "loop.example/g00781/laws.FnExactTouched", spec := "fnExactTouched", recurses := true, apart := false }
def FnExactTouchedSaid : Prop := fnExactTouchedRow.holds Try.pinned (OpenSpec.ofChange fnExactTouchedSpec)

/-- ITS FALSE NEIGHBOUR: 'it returns false'. Refute it at one input. -/
def fnExactTouchedWrong : ChangeSpec := { name := "fnExactTouched", fn := fun _ => fun
  | [d] => { results := [.lit (.bool false)], args := [d] }
  | _ => none }
def FnExactTouchedWrongFalsely : Prop := fnExactTouchedRow.holds Try.pinned (OpenSpec.ofChange fnExactTouchedWrong)

/-- 'laws.FnSave': WHATEVER THE INPUT: true; the input reads as it did. -/
def fnSaveSpec : ChangeSpec := { name := "fnSave", fn := fun _ => fun
  | [d] => { results := [.lit (.bool true)], args := [d] }
  | _ => none }
def fnSaveRow : OpenClaim := { program := "ytjcinikojcfebaa", sum := "4847d29035bec0ad102028b41282e126d92ea453468886eae2a657e4d1caa62f", func := "loop.example/g00781/laws.FnSave", spec := "fnSave", unfollowed := true, recurses := true, apart := false }
def FnSaveSaid : Prop := fnSaveRow.holds Try.pinned (OpenSpec.ofChange fnSaveSpec)

/-- ITS FALSE NEIGHBOUR: 'it returns false'. Refute it at one input. -/
def fnSaveWrong : ChangeSpec := { name := "fnSave", fn := fun _ => fun
  | [d] => { results := [.lit (.bool false)], args := [d] }
  | _ => none }
def FnSaveWrongFalsely : Prop := fnSaveRow.holds Try.pinned (OpenSpec.ofChange fnSaveWrong)

/-- 'laws.FnExactSaveBegin': WHATEVER THE INPUT: true; the input reads as it did. -/
def fnExactSaveBeginSpec : ChangeSpec := { name := "fnExactSaveBegin", fn := fun _ => fun
  | [d1, d2] => { results := [.lit (.bool true)], args := [d1, d2] }
  | _ => none }
def fnExactSaveBeginRow : OpenClaim := { program := "ytjcinikojcfebaa", sum := "4847d29035bec0ad102028b41282e126d92ea453468886eae2a657e4d1caa62f", func := "loop.example/g00781/laws.FnExactSaveBegin", spec := "fnExactSaveBegin", unfollowed := true, recurses := true, apart := false }
def FnExactSaveBeginSaid : Prop := fnExactSaveBeginRow.holds Try.pinned (OpenSpec.ofChange fnExactSaveBeginSpec)

/-- ITS FALSE NEIGHBOUR: 'it returns false'. Refute it at one input. -/
def fnExactSaveBeginWrong : ChangeSpec := { name := "fnExactSaveBegin", fn := fun _ => fun
  | [d1, d2] => { results := [.lit (.bool false)], args := [d1, d2] }
  | _ => none }
def FnExactSaveBeginWrongFalsely : Prop := fnExactSaveBeginRow.holds Try.pinned (OpenSpec.ofChange fnExactSaveBeginWrong)

/-- 'laws.FnMount': WHATEVER THE INPUT: true; the input reads as it did. -/
def fnMountSpec : ChangeSpec := { name := "fnMount", fn := fun _ => fun
  | [d] => { results := [.lit (.bool true)], args := [d] }
  | _ => none }
def fnMountRow : OpenClaim := { program := "ytjcinikojcfebaa", sum := "4847d29035bec0ad102028b41282e126d92ea453468886eae2a657e4d1caa62f", func := "loop.example/g00781/laws.FnMount", spec := "fnMount", unfollowed := true, recurses := true, apart := false }
def FnMountSaid : Prop := fnMountRow.holds Try.pinned (OpenSpec.ofChange fnMountSpec)

/-- ITS FALSE NEIGHBOUR: 'it returns false'. Refute it at one input. -/
def fnMountWrong : ChangeSpec := { name := "fnMount", fn := fun _ => fun
  | [d] => { results := [.lit (.bool false)], args := [d] }
  | _ => none }
def FnMountWrongFalsely : Prop := fnMountRow.holds Try.pinned (OpenSpec.ofChange fnMountWrong)

/-- 'laws.FnExactMount': WHATEVER THE INPUT: true; the input reads as it did. -/
def fnExactMountSpec : ChangeSpec := { name := "fnExactMount", fn := fun _ => fun
  | [d] => { results := [.lit (.bool true)], args := [d] }
  | _ => none }
def fnExactMountRow : OpenClaim := { program := "ytjcinikojcfebaa", sum := "4847d29035bec0ad102028b41282e126d92ea453468886eae2a657e4d1caa62f", func := "loop.example/g00781/laws.FnExactMount", spec := "fnExactMount", unfollowed := true, recurses := true, apart := false }
def FnExactMountSaid : Prop := fnExactMountRow.holds Try.pinned (OpenSpec.ofChange fnExactMountSpec)

/-- ITS FALSE NEIGHBOUR: 'it returns false'. Refute it at one input. -/
def fnExactMountWrong : ChangeSpec := { name := "fnExactMount", fn := fun _ => fun
  | [d] => { results := [.lit (.bool false)], args := [d] }
  | _ => none }
def FnExactMountWrongFalsely : Prop := fnExactMountRow.holds Try.pinned (OpenSpec.ofChange fnExactMountWrong)

/-- 'laws.FnExactSaveStep': WHATEVER THE INPUT: true; the input reads as it did. -/
def fnExactSaveStepSpec : ChangeSpec := { name := "fnExactSaveStep", fn := fun _ => fun
  | [d] => { results := [.lit (.bool true)], args := [d] }
  | _ => none }
def fnExactSaveStepRow : OpenClaim := { program := "ytjcinikojcfebaa", sum := "4847d29035bec0ad102028b41282e126d92ea453468886eae2a657e4d1caa62f", func := "loop.example/g00781/laws.FnExactSaveStep", spec := "fnExactSaveStep", unfollowed := true, recurses := true, apart := false }
def FnExactSaveStepSaid : Prop := fnExactSaveStepRow.holds Try.pinned (OpenSpec.ofChange fnExactSaveStepSpec)

/-- ITS FALSE NEIGHBOUR: 'it returns false'. Refute it at one input. -/
def fnExactSaveStepWrong : ChangeSpec := { name := "fnExactSaveStep", fn := fun _ => fun
  | [d] => { results := [.lit (.bool false)], args := [d] }
  | _ => none }
def FnExactSaveStepWrongFalsely : Prop := fnExactSaveStepRow.holds Try.pinned (OpenSpec.ofChange fnExactSaveStepWrong)

/-- 'laws.FnSaver': WHATEVER THE INPUT: true; the input reads as it did. -/
def fnSaverSpec : ChangeSpec := { name := "fnSaver", fn := fun _ => fun
  | [d] => { results := [.lit (.bool true)], args := [d] }
  | _ => none }
def fnSaverRow : OpenClaim := { program := "ytjcinikojcfebaa", sum := "4847d29035bec0ad102028b41282e126d92ea453468886eae2a657e4d1caa62f", func := "loop.example/g00781/laws.FnSaver", spec := "fnSaver", unfollowed := true, recurses := true, apart := false }
def FnSaverSaid : Prop := fnSaverRow.holds Try.pinned (OpenSpec.ofChange fnSaverSpec)

/-- ITS FALSE NEIGHBOUR: 'it returns false'. Refute it at one input. -/
def fnSaverWrong : ChangeSpec := { name := "fnSaver", fn := fun _ => fun
  | [d] => { results := [.lit (.bool false)], args := [d] }
  | _ => none }
def FnSaverWrongFalsely : Prop := fnSaverRow.holds Try.pinned (OpenSpec.ofChange fnSaverWrong)

/- THE SECOND FORM. 'bulk': how many values and letters a reading holds, each counted each time it is reached (what is shared counts as often as it is met; a slice's spare places count too). A statement '..UptoSaid' is the law's where the arguments, and the package variables that the reading takes, are together of bulk at most 1048576: NARROWER than '..Said'. Prove '..Said' where nothing that the law and all that it calls make is longer than what came in: it says more and counts as full. Else prove '..UptoSaid'. A law counts once. -/
mutual
def uptoBulk {H : Type} : DataW H → Nat
  | .lit (.string bytes) => bytes.length + 1
  | .lit _ => 1
  | .nil => 1
  | .ptr d => uptoBulk d + 1
  | .slice elems spare => uptoBulkAll elems + uptoBulkAll spare + 1
  | .agg parts => uptoBulkAll parts + 1
  | .iface _ d => uptoBulk d + 1
  | .map entries => uptoBulkEntries entries + 1
  | .held _ => 1
def uptoBulkAll {H : Type} : List (DataW H) → Nat
  | [] => 0
  | d :: r => uptoBulk d + uptoBulkAll r
def uptoBulkEntries {H : Type} : List (Lit × DataW H) → Nat
  | [] => 0
  | x :: r => uptoBulkEntry x + uptoBulkEntries r
def uptoBulkEntry {H : Type} : Lit × DataW H → Nat
  | (.string bytes, d) => bytes.length + uptoBulk d + 1
  | (_, d) => uptoBulk d + 1
 end
def uptoSmall : (H : Type) → List (DataW H) → Bool := fun _ ds => decide (uptoBulkAll ds ≤ 1048576)
def OpenSpec.upto (s : _root_.Go.ChangeSpec) : _root_.Go.OpenSpec := { _root_.Go.OpenSpec.ofChange s with cond := some uptoSmall }

/-- 'laws.FnExactNewDisk', WHERE WHAT IT READS IS OF BULK AT MOST 1048576: true; the input reads as it did. -/
def fnExactNewDiskUptoRow : OpenClaim := { program := "ytjcinikojcfebaa", sum := "4847d29035bec0ad102028b41282e126d92ea453468886eae2a657e4d1caa62f", func := "loop.example/g00781/laws.FnExactNewDisk", spec := "fnExactNewDisk", apart := false, narrowed := true }
def FnExactNewDiskUptoSaid : Prop := fnExactNewDiskUptoRow.holds Try.pinned (OpenSpec.upto fnExactNewDiskSpec)

/-- 'laws.FnExactSameView', WHERE WHAT IT READS IS OF BULK AT MOST 1048576: true; the input reads as it did. -/
def fnExactSameViewUptoRow : OpenClaim := { program := "ytjcinikojcfebaa", sum := "4847d29035bec0ad102028b41282e126d92ea453468886eae2a657e4d1caa62f", func := "loop.example/g00781/laws.FnExactSameView", spec := "fnExactSameView", apart := false, narrowed := true }
def FnExactSameViewUptoSaid : Prop := fnExactSameViewUptoRow.holds Try.pinned (OpenSpec.upto fnExactSameViewSpec)

/-- 'laws.FnExactDiskOk', WHERE WHAT IT READS IS OF BULK AT MOST 1048576: true; the input reads as it did. -/
def fnExactDiskOkUptoRow : OpenClaim := { program := "ytjcinikojcfebaa", sum := "4847d29035bec0ad102028b41282e126d92ea453468886eae2a657e4d1caa62f", func := "loop.example/g00781/laws.FnExactDiskOk", spec := "fnExactDiskOk", unfollowed := true, recurses := true, apart := false, narrowed := true }
def FnExactDiskOkUptoSaid : Prop := fnExactDiskOkUptoRow.holds Try.pinned (OpenSpec.upto fnExactDiskOkSpec)

/-- 'laws.FnExactShowTxn', WHERE WHAT IT READS IS OF BULK AT MOST 1048576: true; the input reads as it did. -/
def fnExactShowTxnUptoRow : OpenClaim := { program := "ytjcinikojcfebaa", sum := "4847d29035bec0ad102028b41282e126d92ea453468886eae2a657e4d1caa62f", func := "loop.example/g00781/laws.FnExactShowTxn", spec := "fnExactShowTxn", apart := false, narrowed := true }
def FnExactShowTxnUptoSaid : Prop := fnExactShowTxnUptoRow.holds Try.pinned (OpenSpec.upto fnExactShowTxnSpec)

/-- 'laws.FnDisk', WHERE WHAT IT READS IS OF BULK AT MOST 1048576: true; the input reads as it did. -/
def fnDiskUptoRow : OpenClaim := { program := "ytjcinikojcfebaa", sum := "4847d29035bec0ad102028b41282e126d92ea453468886eae2a657e4d1caa62f", func := "loop.example/g00781/laws.FnDisk", spec := "fnDisk", unfollowed := true, recurses := true, apart := false, narrowed := true }
def FnDiskUptoSaid : Prop := fnDiskUptoRow.holds Try.pinned (OpenSpec.upto fnDiskSpec)

/-- 'laws.FnExactNewSaver', WHERE WHAT IT READS IS OF BULK AT MOST 1048576: true; the input reads as it did. -/
def fnExactNewSaverUptoRow : OpenClaim := { program := "ytjcinikojcfebaa", sum := "4847d29035bec0ad102028b41282e126d92ea453468886eae2a657e4d1caa62f", func := "loop.example/g00781/laws.FnExactNewSaver", spec := "fnExactNewSaver", apart := false, narrowed := true }
def FnExactNewSaverUptoSaid : Prop := fnExactNewSaverUptoRow.holds Try.pinned (OpenSpec.upto fnExactNewSaverSpec)

/-- 'laws.FnExactFileBlocks', WHERE WHAT IT READS IS OF BULK AT MOST 1048576: true; the input reads as it did. -/
def fnExactFileBlocksUptoRow : OpenClaim := { program := "ytjcinikojcfebaa", sum := "4847d29035bec0ad102028b41282e126d92ea453468886eae2a657e4d1caa62f", func := "loop.example/g00781/laws.FnExactFileBlocks", spec := "fnExactFileBlocks", unfollowed := true, recurses := true, apart := false, narrowed := true }
def FnExactFileBlocksUptoSaid : Prop := fnExactFileBlocksUptoRow.holds Try.pinned (OpenSpec.upto fnExactFileBlocksSpec)

/-- 'laws.FnExactPut', WHERE WHAT IT READS IS OF BULK AT MOST 1048576: true; the input reads as it did. -/
def fnExactPutUptoRow : OpenClaim := { program := "ytjcinikojcfebaa", sum := "4847d29035bec0ad102028b41282e126d92ea453468886eae2a657e4d1caa62f", func := "loop.example/g00781/laws.FnExactPut", spec := "fnExactPut", unfollowed := true, recurses := true, apart := false, narrowed := true }
def FnExactPutUptoSaid : Prop := fnExactPutUptoRow.holds Try.pinned (OpenSpec.upto fnExactPutSpec)

/-- 'laws.FnExactFlush', WHERE WHAT IT READS IS OF BULK AT MOST 1048576: true; the input reads as it did. -/
def fnExactFlushUptoRow : OpenClaim := { program := "ytjcinikojcfebaa", sum := "4847d29035bec0ad102028b41282e126d92ea453468886eae2a657e4d1caa62f", func := "loop.example/g00781/laws.FnExactFlush", spec := "fnExactFlush", unfollowed := true, recurses := true, apart := false, narrowed := true }
def FnExactFlushUptoSaid : Prop := fnExactFlushUptoRow.holds Try.pinned (OpenSpec.upto fnExactFlushSpec)

/-- 'laws.FnExactFall', WHERE WHAT IT READS IS OF BULK AT MOST 1048576: true; the input reads as it did. -/
def fnExactFallUptoRow : OpenClaim := { program := "ytjcinikojcfebaa", sum := "4847d29035bec0ad102028b41282e126d92ea453468886eae2a657e4d1caa62f", func := "loop.example/g00781/laws.FnExactFall", spec := "fnExactFall", unfollowed := true, recurses := true, apart := false, narrowed := true }
def FnExactFallUptoSaid : Prop := fnExactFallUptoRow.holds Try.pinned (OpenSpec.upto fnExactFallSpec)

/-- 'laws.FnExactReadProg', WHERE WHAT IT READS IS OF BULK AT MOST 1048576: true; the input reads as it did. -/
def fnExactReadProgUptoRow : OpenClaim := { program := "ytjcinikojcfebaa", sum := "4847d29035bec0ad102028b41282e126d92ea453468886eae2a657e4d1caa62f", func := "loop.example/g00781/laws.FnExactReadProg", spec := "fnExactReadProg", unfollowed := true, recurses := true, apart := false, narrowed := true }
def FnExactReadProgUptoSaid : Prop := fnExactReadProgUptoRow.holds Try.pinned (OpenSpec.upto fnExactReadProgSpec)

/-- 'laws.FnExactSaverOk', WHERE WHAT IT READS IS OF BULK AT MOST 1048576: true; the input reads as it did. -/
def fnExactSaverOkUptoRow : OpenClaim := { program := "ytjcinikojcfebaa", sum := "4847d29035bec0ad102028b41282e126d92ea453468886eae2a657e4d1caa62f", func := "loop.example/g00781/laws.FnExactSaverOk", spec := "fnExactSaverOk", unfollowed := true, recurses := true, apart := false, narrowed := true }
def FnExactSaverOkUptoSaid : Prop := fnExactSaverOkUptoRow.holds Try.pinned (OpenSpec.upto fnExactSaverOkSpec)

/-- 'laws.FnExactReadTxn', WHERE WHAT IT READS IS OF BULK AT MOST 1048576: true; the input reads as it did. -/
def fnExactReadTxnUptoRow : OpenClaim := { program := "ytjcinikojcfebaa", sum := "4847d29035bec0ad102028b41282e126d92ea453468886eae2a657e4d1caa62f", func := "loop.example/g00781/laws.FnExactReadTxn", spec := "fnExactReadTxn", apart := false, narrowed := true }
def FnExactReadTxnUptoSaid : Prop := fnExactReadTxnUptoRow.holds Try.pinned (OpenSpec.upto fnExactReadTxnSpec)

/-- 'laws.FnExactReadFileBlocks', WHERE WHAT IT READS IS OF BULK AT MOST 1048576: true; the input reads as it did. -/
def fnExactReadFileBlocksUptoRow : OpenClaim := { program := "ytjcinikojcfebaa", sum := "4847d29035bec0ad102028b41282e126d92ea453468886eae2a657e4d1caa62f", func := "loop.example/g00781/laws.FnExactReadFileBlocks", spec := "fnExactReadFileBlocks", unfollowed := true, recurses := true, apart := false, narrowed := true }
def FnExactReadFileBlocksUptoSaid : Prop := fnExactReadFileBlocksUptoRow.holds Try.pinned (OpenSpec.upto fnExactReadFileBlocksSpec)

/-- 'laws.FnTxn', WHERE WHAT IT READS IS OF BULK AT MOST 1048576: true; the input reads as it did. -/
def fnTxnUptoRow : OpenClaim := { program := "ytjcinikojcfebaa", sum := "4847d29035bec0ad102028b41282e126d92ea453468886eae2a657e4d1caa62f", func := "loop.example/g00781/laws.FnTxn", spec := "fnTxn", apart := false, narrowed := true }
def FnTxnUptoSaid : Prop := fnTxnUptoRow.holds Try.pinned (OpenSpec.upto fnTxnSpec)

/-- 'laws.FnBlocks', WHERE WHAT IT READS IS OF BULK AT MOST 1048576: true; the input reads as it did. -/
def fnBlocksUptoRow : OpenClaim := { program := "ytjcinikojcfebaa", sum := "4847d29035bec0ad102028b41282e126d92ea453468886eae2a657e4d1caa62f", func := "loop.example/g00781/laws.FnBlocks", spec := "fnBlocks", unfollowed := true, recurses := true, apart := false, narrowed := true }
def FnBlocksUptoSaid : Prop := fnBlocksUptoRow.holds Try.pinned (OpenSpec.upto fnBlocksSpec)

/-- 'laws.FnExactTouched', WHERE WHAT IT READS IS OF BULK AT MOST 1048576: true; the input reads as it did. -/
def fnExactTouchedUptoRow : OpenClaim := { program := "ytjcinikojcfebaa", sum := "4847d29035bec0ad102028b41282e126d92ea453468886eae2a657e4d1caa62f", func := "loop.example/g00781/laws.FnExactTouched", spec := "fnExactTouched", recurses := true, apart := false, narrowed := true }
def FnExactTouchedUptoSaid : Prop := fnExactTouchedUptoRow.holds Try.pinned (OpenSpec.upto fnExactTouchedSpec)

/-- 'laws.FnSave', WHERE WHAT IT READS IS OF BULK AT MOST 1048576: true; the input reads as it did. -/
def fnSaveUptoRow : OpenClaim := { program := "ytjcinikojcfebaa", sum := "4847d29035bec0ad102028b41282e126d92ea453468886eae2a657e4d1caa62f", func := "loop.example/g00781/laws.FnSave", spec := "fnSave", unfollowed := true, recurses := true, apart := false, narrowed := true }
def FnSaveUptoSaid : Prop := fnSaveUptoRow.holds Try.pinned (OpenSpec.upto fnSaveSpec)

/-- 'laws.FnExactSaveBegin', WHERE WHAT IT READS IS OF BULK AT MOST 1048576: true; the input reads as it did. -/
def fnExactSaveBeginUptoRow : OpenClaim := { program := "ytjcinikojcfebaa", sum := "4847d29035bec0ad102028b41282e126d92ea453468886eae2a657e4d1caa62f", func := "loop.example/g00781/laws.FnExactSaveBegin", spec := "fnExactSaveBegin", unfollowed := true, recurses := true, apart := false, narrowed := true }
def FnExactSaveBeginUptoSaid : Prop := fnExactSaveBeginUptoRow.holds Try.pinned (OpenSpec.upto fnExactSaveBeginSpec)

/-- 'laws.FnMount', WHERE WHAT IT READS IS OF BULK AT MOST 1048576: true; the input reads as it did. -/
def fnMountUptoRow : OpenClaim := { program := "ytjcinikojcfebaa", sum := "4847d29035bec0ad102028b41282e126d92ea453468886eae2a657e4d1caa62f", func := "loop.example/g00781/laws.FnMount", spec := "fnMount", unfollowed := true, recurses := true, apart := false, narrowed := true }
def FnMountUptoSaid : Prop := fnMountUptoRow.holds Try.pinned (OpenSpec.upto fnMountSpec)

/-- 'laws.FnExactMount', WHERE WHAT IT READS IS OF BULK AT MOST 1048576: true; the input reads as it did. -/
def fnExactMountUptoRow : OpenClaim := { program := "ytjcinikojcfebaa", sum := "4847d29035bec0ad102028b41282e126d92ea453468886eae2a657e4d1caa62f", func := "loop.example/g00781/laws.FnExactMount", spec := "fnExactMount", unfollowed := true, recurses := true, apart := false, narrowed := true }
def FnExactMountUptoSaid : Prop := fnExactMountUptoRow.holds Try.pinned (OpenSpec.upto fnExactMountSpec)

/-- 'laws.FnExactSaveStep', WHERE WHAT IT READS IS OF BULK AT MOST 1048576: true; the input reads as it did. -/
def fnExactSaveStepUptoRow : OpenClaim := { program := "ytjcinikojcfebaa", sum := "4847d29035bec0ad102028b41282e126d92ea453468886eae2a657e4d1caa62f", func := "loop.example/g00781/laws.FnExactSaveStep", spec := "fnExactSaveStep", unfollowed := true, recurses := true, apart := false, narrowed := true }
def FnExactSaveStepUptoSaid : Prop := fnExactSaveStepUptoRow.holds Try.pinned (OpenSpec.upto fnExactSaveStepSpec)

/-- 'laws.FnSaver', WHERE WHAT IT READS IS OF BULK AT MOST 1048576: true; the input reads as it did. -/
def fnSaverUptoRow : OpenClaim := { program := "ytjcinikojcfebaa", sum := "4847d29035bec0ad102028b41282e126d92ea453468886eae2a657e4d1caa62f", func := "loop.example/g00781/laws.FnSaver", spec := "fnSaver", unfollowed := true, recurses := true, apart := false, narrowed := true }
def FnSaverUptoSaid : Prop := fnSaverUptoRow.holds Try.pinned (OpenSpec.upto fnSaverSpec)

end Rows
end Go.Proofs.Ytjcinikojcfebaa
