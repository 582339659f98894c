/-
  No cell of these rows narrows 'for every input' (looked for: loops, veiled, ifaces, maps, wideKeys, modest, calm, conditions, laid).
  DERIVED. THE GIVEN ROWS OF THIS SEAT. 4 by the template 'for every input the law returns true; each argument reads behind the call as it read before'; 0 by the template 'total and deterministic' (their statements: YtohagdoklnkljaaGreatTotals.lean).
  GIVEN WITH THE SEED: the statements are not yours to turn. If you find one false, say at which input.
  Laid BY PROGRAM, IN A SANDBOX (cutbox-rows.mjs): the forced cells as the released guide's own fill.sh prints them over the translation d84716eb242c3526… (all of the seat's roots in one cut). By AI agents, Wed Nov 11 2026. No macro, syntax, notation, axiom, sorry.
-/
import Derived.Test.YtohagdoklnkljaaGreatChecked
import GoSem.Claim
import GoSem.ClaimJoined
import GoSem.ClaimMapViews
import Derived.JoinedTies
import Derived.KernelRfl
namespace Go.Proofs.YtohagdoklnkljaaGreat
/- THE CELL 'sum', in the pinned program and in every row, IS THE sha256 OF THE DUMP (.gsa) THAT YtohagdoklnkljaaGreatProg.lean LOADS. Nothing in Lean hashes anything: it is a label: what it is worth is what the hold of that sum in a sandbox is worth. -/
noncomputable def Tryz.pinned : Pinned := { name := "ytohagdoklnkljaagreat", sum := "d84716eb242c3526e291a603f20fc04a609d897c3c5da88547a6ff39d48831cd", checked := Tryz.checked }
namespace Rows
def none {H : Type} : Left H := { results := [], args := [] }

/-- 'laws.FnEffects': WHATEVER THE INPUT: true; the input reads as it did. -/
def fnEffectsSpec : ChangeSpec := { name := "fnEffects", fn := fun _ => fun
  | [d] => { results := [.lit (.bool true)], args := [d] }
  | _ => none }
def fnEffectsRow : OpenClaim := { program := "ytohagdoklnkljaagreat", sum := "d84716eb242c3526e291a603f20fc04a609d897c3c5da88547a6ff39d48831cd", func := "loop.example/g00781/laws.FnEffects", spec := "fnEffects", inPlace := ["slices.overlaps[loop.example/g00781/impl.Open]", "slices.overlaps[loop.example/g00781/impl.Pipe]", "slices.overlaps[loop.example/g00781/impl.File]"], unfollowed := true, recurses := true, apart := false }
def FnEffectsSaid : Prop := fnEffectsRow.holds Tryz.pinned (OpenSpec.ofChange fnEffectsSpec)

/-- ITS FALSE NEIGHBOUR: 'it returns false'. Refute it at one input. -/
def fnEffectsWrong : ChangeSpec := { name := "fnEffects", fn := fun _ => fun
  | [d] => { results := [.lit (.bool false)], args := [d] }
  | _ => none }
def FnEffectsWrongFalsely : Prop := fnEffectsRow.holds Tryz.pinned (OpenSpec.ofChange fnEffectsWrong)

/-- 'laws.FnForever': WHATEVER THE INPUT: true; the input reads as it did. -/
def fnForeverSpec : ChangeSpec := { name := "fnForever", fn := fun _ => fun
  | [d] => { results := [.lit (.bool true)], args := [d] }
  | _ => none }
def fnForeverRow : OpenClaim := { program := "ytohagdoklnkljaagreat", sum := "d84716eb242c3526e291a603f20fc04a609d897c3c5da88547a6ff39d48831cd", func := "loop.example/g00781/laws.FnForever", spec := "fnForever", inPlace := ["slices.overlaps[loop.example/g00781/impl.Open]", "slices.overlaps[loop.example/g00781/impl.Pipe]", "slices.overlaps[loop.example/g00781/impl.File]"], unfollowed := true, recurses := true, apart := false }
def FnForeverSaid : Prop := fnForeverRow.holds Tryz.pinned (OpenSpec.ofChange fnForeverSpec)

/-- ITS FALSE NEIGHBOUR: 'it returns false'. Refute it at one input. -/
def fnForeverWrong : ChangeSpec := { name := "fnForever", fn := fun _ => fun
  | [d] => { results := [.lit (.bool false)], args := [d] }
  | _ => none }
def FnForeverWrongFalsely : Prop := fnForeverRow.holds Tryz.pinned (OpenSpec.ofChange fnForeverWrong)

/-- 'laws.FnStuck': WHATEVER THE INPUT: true; the input reads as it did. -/
def fnStuckSpec : ChangeSpec := { name := "fnStuck", fn := fun _ => fun
  | [d] => { results := [.lit (.bool true)], args := [d] }
  | _ => none }
def fnStuckRow : OpenClaim := { program := "ytohagdoklnkljaagreat", sum := "d84716eb242c3526e291a603f20fc04a609d897c3c5da88547a6ff39d48831cd", func := "loop.example/g00781/laws.FnStuck", spec := "fnStuck", inPlace := ["slices.overlaps[loop.example/g00781/impl.Open]", "slices.overlaps[loop.example/g00781/impl.Pipe]", "slices.overlaps[loop.example/g00781/impl.File]"], unfollowed := true, recurses := true, apart := false }
def FnStuckSaid : Prop := fnStuckRow.holds Tryz.pinned (OpenSpec.ofChange fnStuckSpec)

/-- ITS FALSE NEIGHBOUR: 'it returns false'. Refute it at one input. -/
def fnStuckWrong : ChangeSpec := { name := "fnStuck", fn := fun _ => fun
  | [d] => { results := [.lit (.bool false)], args := [d] }
  | _ => none }
def FnStuckWrongFalsely : Prop := fnStuckRow.holds Tryz.pinned (OpenSpec.ofChange fnStuckWrong)

/-- 'laws.FnExactRun': WHATEVER THE INPUT: true; the input reads as it did. -/
def fnExactRunSpec : ChangeSpec := { name := "fnExactRun", fn := fun _ => fun
  | [d] => { results := [.lit (.bool true)], args := [d] }
  | _ => none }
def fnExactRunRow : OpenClaim := { program := "ytohagdoklnkljaagreat", sum := "d84716eb242c3526e291a603f20fc04a609d897c3c5da88547a6ff39d48831cd", func := "loop.example/g00781/laws.FnExactRun", spec := "fnExactRun", inPlace := ["slices.overlaps[loop.example/g00781/impl.Open]", "slices.overlaps[loop.example/g00781/impl.Pipe]", "slices.overlaps[loop.example/g00781/impl.File]"], unfollowed := true, recurses := true, apart := false }
def FnExactRunSaid : Prop := fnExactRunRow.holds Tryz.pinned (OpenSpec.ofChange fnExactRunSpec)

/-- ITS FALSE NEIGHBOUR: 'it returns false'. Refute it at one input. -/
def fnExactRunWrong : ChangeSpec := { name := "fnExactRun", fn := fun _ => fun
  | [d] => { results := [.lit (.bool false)], args := [d] }
  | _ => none }
def FnExactRunWrongFalsely : Prop := fnExactRunRow.holds Tryz.pinned (OpenSpec.ofChange fnExactRunWrong)

/- THE SECOND FORM. 'bulk': how many values and letters a reading holds, each counted each time it is reached (what is shared counts as often as it is met; a slice's spare places count too). A statement '..UptoSaid' is the law's where the arguments, and the package variables that the reading takes, are together of bulk at most 1048576: NARROWER than '..Said'. Prove '..Said' where nothing that the law and all that it calls make is longer than what came in: it says more and counts as full. Else prove '..UptoSaid'. A law counts once. -/
mutual
def uptoBulk {H : Type} : DataW H → Nat
  | .lit (.string bytes) => bytes.length + 1
  | .lit _ => 1
  | .nil => 1
  | .ptr d => uptoBulk d + 1
  | .slice elems spare => uptoBulkAll elems + uptoBulkAll spare + 1
  | .agg parts => uptoBulkAll parts + 1
  | .iface _ d => uptoBulk d + 1
  | .map entries => uptoBulkEntries entries + 1
  | .held _ => 1
def uptoBulkAll {H : Type} : List (DataW H) → Nat
  | [] => 0
  | d :: r => uptoBulk d + uptoBulkAll r
def uptoBulkEntries {H : Type} : List (Lit × DataW H) → Nat
  | [] => 0
  | x :: r => uptoBulkEntry x + uptoBulkEntries r
def uptoBulkEntry {H : Type} : Lit × DataW H → Nat
  | (.string bytes, d) => bytes.length + uptoBulk d + 1
  | (_, d) => uptoBulk d + 1
 end
def uptoSmall : (H : Type) → List (DataW H) → Bool := fun _ ds => decide (uptoBulkAll ds ≤ 1048576)
def OpenSpec.upto (s : _root_.Go.ChangeSpec) : _root_.Go.OpenSpec := { _root_.Go.OpenSpec.ofChange s with cond := some uptoSmall }

/-- 'laws.FnEffects', WHERE WHAT IT READS IS OF BULK AT MOST 1048576: true; the input reads as it did. -/
def fnEffectsUptoRow : OpenClaim := { program := "ytohagdoklnkljaagreat", sum := "d84716eb242c3526e291a603f20fc04a609d897c3c5da88547a6ff39d48831cd", func := "loop.example/g00781/laws.FnEffects", spec := "fnEffects", inPlace := ["slices.overlaps[loop.example/g00781/impl.Open]", "slices.overlaps[loop.example/g00781/impl.Pipe]", "slices.overlaps[loop.example/g00781/impl.File]"], unfollowed := true, recurses := true, apart := false, narrowed := true }
def FnEffectsUptoSaid : Prop := fnEffectsUptoRow.holds Tryz.pinned (OpenSpec.upto fnEffectsSpec)

/-- 'laws.FnForever', WHERE WHAT IT READS IS OF BULK AT MOST 1048576: true; the input reads as it did. -/
def fnForeverUptoRow : OpenClaim := { program := "ytohagdoklnkljaagreat", sum := "d84716eb242c3526e291a603f20fc04a609d897c3c5da88547a6ff39d48831cd", func := "loop.example/g00781/laws.FnForever", spec := "fnForever", inPlace := ["slices.overlaps[loop.example/g00781/impl.Open]", "slices.overlaps[loop.example/g00781/impl.Pipe]", "slices.overlaps[loop.example/g00781/impl.File]"], unfollowed := true, recurses := true, apart := false, narrowed := true }
def FnForeverUptoSaid : Prop := fnForeverUptoRow.holds Tryz.pinned (OpenSpec.upto fnForeverSpec)

/-- 'laws.FnStuck', WHERE WHAT IT READS IS OF BULK AT MOST 1048576: true; the input reads as it did. -/
def fnStuckUptoRow : OpenClaim := { program := "ytohagdoklnkljaagreat", sum := "d84716eb242c3526e291a603f20fc04a609d897c3c5da88547a6ff39d48831cd", func := "loop.example/g00781/laws.FnStuck", spec := "fnStuck", inPlace := ["slices.overlaps[loop.example/g00781/impl.Open]", "slices.overlaps[loop.example/g00781/impl.Pipe]", "slices.overlaps[loop.example/g00781/impl.File]"], unfollowed := true, recurses := true, apart := false, narrowed := true }
def FnStuckUptoSaid : Prop := fnStuckUptoRow.holds Tryz.pinned (OpenSpec.upto fnStuckSpec)

/-- 'laws.FnExactRun', WHERE WHAT IT READS IS OF BULK AT MOST 1048576: true; the input reads as it did. -/
def fnExactRunUptoRow : OpenClaim := { program := "ytohagdoklnkljaagreat", sum := "d84716eb242c3526e291a603f20fc04a609d897c3c5da88547a6ff39d48831cd", func := "loop.example/g00781/laws.FnExactRun", spec := "fnExactRun", inPlace := ["slices.overlaps[loop.example/g00781/impl.Open]", "slices.overlaps[loop.example/g00781/impl.Pipe]", "slices.overlaps[loop.example/g00781/impl.File]"], unfollowed := true, recurses := true, apart := false, narrowed := true }
def FnExactRunUptoSaid : Prop := fnExactRunUptoRow.holds Tryz.pinned (OpenSpec.upto fnExactRunSpec)

end Rows
end Go.Proofs.YtohagdoklnkljaaGreat
