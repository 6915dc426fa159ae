/-
  No cell of these rows narrows 'for every input' (looked for: loops, veiled, ifaces, maps, wideKeys, modest, calm, conditions, laid).
  DERIVED. THE GIVEN ROWS OF THIS SEAT. 6 by the template 'for every input the law returns true; each argument reads behind the call as it read before'; 0 by the template 'total and deterministic' (their statements: YtifpekpmnlcmoaaTotals.lean).
  GIVEN WITH THE SEED: the statements are not yours to turn. If you find one false, say at which input.
  Laid BY PROGRAM, IN A SANDBOX (cutbox-rows.mjs): the forced cells as the released guide's own fill.sh prints them over the translation 3688c7f586d91ca5… (all of the seat's roots in one cut). By AI agents, Wed Nov 11 2026. No macro, syntax, notation, axiom, sorry.
-/
import Derived.Test.YtifpekpmnlcmoaaChecked
import GoSem.Claim
import GoSem.ClaimJoined
import GoSem.ClaimMapViews
import Derived.JoinedTies
import Derived.KernelRfl
namespace Go.Proofs.Ytifpekpmnlcmoaa
/- THE CELL 'sum', in the pinned program and in every row, IS THE sha256 OF THE DUMP (.gsa) THAT YtifpekpmnlcmoaaProg.lean LOADS. Nothing in Lean hashes anything: it is a label: what it is worth is what the hold of that sum in a sandbox is worth. -/
noncomputable def Try.pinned : Pinned := { name := "ytifpekpmnlcmoaa", sum := "3688c7f586d91ca50536875a8fef96f2d6aba5f23cb2bce38e7416ff5312e8c7", checked := Try.checked }
namespace Rows
def none {H : Type} : Left H := { results := [], args := [] }

/-- 'laws.FnExactConfigText': WHATEVER THE INPUT: true; the input reads as it did. -/
def fnExactConfigTextSpec : ChangeSpec := { name := "fnExactConfigText", fn := fun _ => fun
  | [d] => { results := [.lit (.bool true)], args := [d] }
  | _ => none }
def fnExactConfigTextRow : OpenClaim := { program := "ytifpekpmnlcmoaa", sum := "3688c7f586d91ca50536875a8fef96f2d6aba5f23cb2bce38e7416ff5312e8c7", func := "loop.example/g00344/laws.FnExactConfigText", spec := "fnExactConfigText", inPlace := ["internal/abi.NoEscape", "internal/bytealg.MakeNoZero"], unfollowed := true, recurses := true, apart := false }
def FnExactConfigTextSaid : Prop := fnExactConfigTextRow.holds Try.pinned (OpenSpec.ofChange fnExactConfigTextSpec)

/-- ITS FALSE NEIGHBOUR: 'it returns false'. Refute it at one input. -/
def fnExactConfigTextWrong : ChangeSpec := { name := "fnExactConfigText", fn := fun _ => fun
  | [d] => { results := [.lit (.bool false)], args := [d] }
  | _ => none }
def FnExactConfigTextWrongFalsely : Prop := fnExactConfigTextRow.holds Try.pinned (OpenSpec.ofChange fnExactConfigTextWrong)

/-- 'laws.FnExactReadConfig': WHATEVER THE INPUT: true; the input reads as it did. -/
def fnExactReadConfigSpec : ChangeSpec := { name := "fnExactReadConfig", fn := fun _ => fun
  | [d] => { results := [.lit (.bool true)], args := [d] }
  | _ => none }
def fnExactReadConfigRow : OpenClaim := { program := "ytifpekpmnlcmoaa", sum := "3688c7f586d91ca50536875a8fef96f2d6aba5f23cb2bce38e7416ff5312e8c7", func := "loop.example/g00344/laws.FnExactReadConfig", spec := "fnExactReadConfig", unfollowed := true, recurses := true, apart := false }
def FnExactReadConfigSaid : Prop := fnExactReadConfigRow.holds Try.pinned (OpenSpec.ofChange fnExactReadConfigSpec)

/-- ITS FALSE NEIGHBOUR: 'it returns false'. Refute it at one input. -/
def fnExactReadConfigWrong : ChangeSpec := { name := "fnExactReadConfig", fn := fun _ => fun
  | [d] => { results := [.lit (.bool false)], args := [d] }
  | _ => none }
def FnExactReadConfigWrongFalsely : Prop := fnExactReadConfigRow.holds Try.pinned (OpenSpec.ofChange fnExactReadConfigWrong)

/-- 'laws.FnDiff': WHATEVER THE INPUT: true; the input reads as it did. -/
def fnDiffSpec : ChangeSpec := { name := "fnDiff", fn := fun _ => fun
  | [d1, d2] => { results := [.lit (.bool true)], args := [d1, d2] }
  | _ => none }
def fnDiffRow : OpenClaim := { program := "ytifpekpmnlcmoaa", sum := "3688c7f586d91ca50536875a8fef96f2d6aba5f23cb2bce38e7416ff5312e8c7", func := "loop.example/g00344/laws.FnDiff", spec := "fnDiff", inPlace := ["slices.overlaps[loop.example/g00344/impl.Leaf]", "internal/abi.NoEscape", "internal/bytealg.MakeNoZero"], unfollowed := true, recurses := true, apart := false }
def FnDiffSaid : Prop := fnDiffRow.holds Try.pinned (OpenSpec.ofChange fnDiffSpec)

/-- ITS FALSE NEIGHBOUR: 'it returns false'. Refute it at one input. -/
def fnDiffWrong : ChangeSpec := { name := "fnDiff", fn := fun _ => fun
  | [d1, d2] => { results := [.lit (.bool false)], args := [d1, d2] }
  | _ => none }
def FnDiffWrongFalsely : Prop := fnDiffRow.holds Try.pinned (OpenSpec.ofChange fnDiffWrong)

/-- 'laws.FnCommit': WHATEVER THE INPUT: true; the input reads as it did. -/
def fnCommitSpec : ChangeSpec := { name := "fnCommit", fn := fun _ => fun
  | [d] => { results := [.lit (.bool true)], args := [d] }
  | _ => none }
def fnCommitRow : OpenClaim := { program := "ytifpekpmnlcmoaa", sum := "3688c7f586d91ca50536875a8fef96f2d6aba5f23cb2bce38e7416ff5312e8c7", func := "loop.example/g00344/laws.FnCommit", spec := "fnCommit", inPlace := ["slices.overlaps[loop.example/g00344/impl.Leaf]", "slices.overlaps[[]loop.example/g00344/impl.Leaf]"], unfollowed := true, recurses := true, apart := false }
def FnCommitSaid : Prop := fnCommitRow.holds Try.pinned (OpenSpec.ofChange fnCommitSpec)

/-- ITS FALSE NEIGHBOUR: 'it returns false'. Refute it at one input. -/
def fnCommitWrong : ChangeSpec := { name := "fnCommit", fn := fun _ => fun
  | [d] => { results := [.lit (.bool false)], args := [d] }
  | _ => none }
def FnCommitWrongFalsely : Prop := fnCommitRow.holds Try.pinned (OpenSpec.ofChange fnCommitWrong)

/-- 'laws.FnExactPlayOps': WHATEVER THE INPUT: true; the input reads as it did. -/
def fnExactPlayOpsSpec : ChangeSpec := { name := "fnExactPlayOps", fn := fun _ => fun
  | [d] => { results := [.lit (.bool true)], args := [d] }
  | _ => none }
def fnExactPlayOpsRow : OpenClaim := { program := "ytifpekpmnlcmoaa", sum := "3688c7f586d91ca50536875a8fef96f2d6aba5f23cb2bce38e7416ff5312e8c7", func := "loop.example/g00344/laws.FnExactPlayOps", spec := "fnExactPlayOps", inPlace := ["slices.overlaps[loop.example/g00344/impl.Leaf]", "slices.overlaps[[]loop.example/g00344/impl.Leaf]"], unfollowed := true, recurses := true, apart := false }
def FnExactPlayOpsSaid : Prop := fnExactPlayOpsRow.holds Try.pinned (OpenSpec.ofChange fnExactPlayOpsSpec)

/-- ITS FALSE NEIGHBOUR: 'it returns false'. Refute it at one input. -/
def fnExactPlayOpsWrong : ChangeSpec := { name := "fnExactPlayOps", fn := fun _ => fun
  | [d] => { results := [.lit (.bool false)], args := [d] }
  | _ => none }
def FnExactPlayOpsWrongFalsely : Prop := fnExactPlayOpsRow.holds Try.pinned (OpenSpec.ofChange fnExactPlayOpsWrong)

/-- 'laws.FnExactStepStore': WHATEVER THE INPUT: true; the input reads as it did. -/
def fnExactStepStoreSpec : ChangeSpec := { name := "fnExactStepStore", fn := fun _ => fun
  | [d1, d2] => { results := [.lit (.bool true)], args := [d1, d2] }
  | _ => none }
def fnExactStepStoreRow : OpenClaim := { program := "ytifpekpmnlcmoaa", sum := "3688c7f586d91ca50536875a8fef96f2d6aba5f23cb2bce38e7416ff5312e8c7", func := "loop.example/g00344/laws.FnExactStepStore", spec := "fnExactStepStore", inPlace := ["slices.overlaps[loop.example/g00344/impl.Leaf]", "slices.overlaps[[]loop.example/g00344/impl.Leaf]"], unfollowed := true, recurses := true, apart := false }
def FnExactStepStoreSaid : Prop := fnExactStepStoreRow.holds Try.pinned (OpenSpec.ofChange fnExactStepStoreSpec)

/-- ITS FALSE NEIGHBOUR: 'it returns false'. Refute it at one input. -/
def fnExactStepStoreWrong : ChangeSpec := { name := "fnExactStepStore", fn := fun _ => fun
  | [d1, d2] => { results := [.lit (.bool false)], args := [d1, d2] }
  | _ => none }
def FnExactStepStoreWrongFalsely : Prop := fnExactStepStoreRow.holds Try.pinned (OpenSpec.ofChange fnExactStepStoreWrong)

/- THE SECOND FORM. 'bulk': how many values and letters a reading holds, each counted each time it is reached (what is shared counts as often as it is met; a slice's spare places count too). A statement '..UptoSaid' is the law's where the arguments, and the package variables that the reading takes, are together of bulk at most 1048576: NARROWER than '..Said'. Prove '..Said' where nothing that the law and all that it calls make is longer than what came in: it says more and counts as full. Else prove '..UptoSaid'. A law counts once. -/
mutual
def uptoBulk {H : Type} : DataW H → Nat
  | .lit (.string bytes) => bytes.length + 1
  | .lit _ => 1
  | .nil => 1
  | .ptr d => uptoBulk d + 1
  | .slice elems spare => uptoBulkAll elems + uptoBulkAll spare + 1
  | .agg parts => uptoBulkAll parts + 1
  | .iface _ d => uptoBulk d + 1
  | .map entries => uptoBulkEntries entries + 1
  | .held _ => 1
def uptoBulkAll {H : Type} : List (DataW H) → Nat
  | [] => 0
  | d :: r => uptoBulk d + uptoBulkAll r
def uptoBulkEntries {H : Type} : List (Lit × DataW H) → Nat
  | [] => 0
  | x :: r => uptoBulkEntry x + uptoBulkEntries r
def uptoBulkEntry {H : Type} : Lit × DataW H → Nat
  | (.string bytes, d) => bytes.length + uptoBulk d + 1
  | (_, d) => uptoBulk d + 1
 end
def uptoSmall : (H : Type) → List (DataW H) → Bool := fun _ ds => decide (uptoBulkAll ds ≤ 1048576)
def OpenSpec.upto (s : _root_.Go.ChangeSpec) : _root_.Go.OpenSpec := { _root_.Go.OpenSpec.ofChange s with cond := some uptoSmall }

/-- 'laws.FnExactConfigText', WHERE WHAT IT READS IS OF BULK AT MOST 1048576: true; the input reads as it did. -/
def fnExactConfigTextUptoRow : OpenClaim := { program := "ytifpekpmnlcmoaa", sum := "3688c7f586d91ca50536875a8fef96f2d6aba5f23cb2bce38e7416ff5312e8c7", func := "loop.example/g00344/laws.FnExactConfigText", spec := "fnExactConfigText", inPlace := ["internal/abi.NoEscape", "internal/bytealg.MakeNoZero"], unfollowed := true, recurses := true, apart := false, narrowed := true }
def FnExactConfigTextUptoSaid : Prop := fnExactConfigTextUptoRow.holds Try.pinned (OpenSpec.upto fnExactConfigTextSpec)

/-- 'laws.FnExactReadConfig', WHERE WHAT IT READS IS OF BULK AT MOST 1048576: true; the input reads as it did. -/
def fnExactReadConfigUptoRow : OpenClaim := { program := "ytifpekpmnlcmoaa", sum := "3688c7f586d91ca50536875a8fef96f2d6aba5f23cb2bce38e7416ff5312e8c7", func := "loop.example/g00344/laws.FnExactReadConfig", spec := "fnExactReadConfig", unfollowed := true, recurses := true, apart := false, narrowed := true }
def FnExactReadConfigUptoSaid : Prop := fnExactReadConfigUptoRow.holds Try.pinned (OpenSpec.upto fnExactReadConfigSpec)

/-- 'laws.FnDiff', WHERE WHAT IT READS IS OF BULK AT MOST 1048576: true; the input reads as it did. -/
def fnDiffUptoRow : OpenClaim := { program := "ytifpekpmnlcmoaa", sum := "3688c7f586d91ca50536875a8fef96f2d6aba5f23cb2bce38e7416ff5312e8c7", func := "loop.example/g00344/laws.FnDiff", spec := "fnDiff", inPlace := ["slices.overlaps[loop.example/g00344/impl.Leaf]", "internal/abi.NoEscape", "internal/bytealg.MakeNoZero"], unfollowed := true, recurses := true, apart := false, narrowed := true }
def FnDiffUptoSaid : Prop := fnDiffUptoRow.holds Try.pinned (OpenSpec.upto fnDiffSpec)

/-- 'laws.FnCommit', WHERE WHAT IT READS IS OF BULK AT MOST 1048576: true; the input reads as it did. -/
def fnCommitUptoRow : OpenClaim := { program := "ytifpekpmnlcmoaa", sum := "3688c7f586d91ca50536875a8fef96f2d6aba5f23cb2bce38e7416ff5312e8c7", func := "loop.example/g00344/laws.FnCommit", spec := "fnCommit", inPlace := ["slices.overlaps[loop.example/g00344/impl.Leaf]", "slices.overlaps[[]loop.example/g00344/impl.Leaf]"], unfollowed := true, recurses := true, apart := false, narrowed := true }
def FnCommitUptoSaid : Prop := fnCommitUptoRow.holds Try.pinned (OpenSpec.upto fnCommitSpec)

/-- 'laws.FnExactPlayOps', WHERE WHAT IT READS IS OF BULK AT MOST 1048576: true; the input reads as it did. -/
def fnExactPlayOpsUptoRow : OpenClaim := { program := "ytifpekpmnlcmoaa", sum := "3688c7f586d91ca50536875a8fef96f2d6aba5f23cb2bce38e7416ff5312e8c7", func := "loop.example/g00344/laws.FnExactPlayOps", spec := "fnExactPlayOps", inPlace := ["slices.overlaps[loop.example/g00344/impl.Leaf]", "slices.overlaps[[]loop.example/g00344/impl.Leaf]"], unfollowed := true, recurses := true, apart := false, narrowed := true }
def FnExactPlayOpsUptoSaid : Prop := fnExactPlayOpsUptoRow.holds Try.pinned (OpenSpec.upto fnExactPlayOpsSpec)

/-- 'laws.FnExactStepStore', WHERE WHAT IT READS IS OF BULK AT MOST 1048576: true; the input reads as it did. -/
def fnExactStepStoreUptoRow : OpenClaim := { program := "ytifpekpmnlcmoaa", sum := "3688c7f586d91ca50536875a8fef96f2d6aba5f23cb2bce38e7416ff5312e8c7", func := "loop.example/g00344/laws.FnExactStepStore", spec := "fnExactStepStore", inPlace := ["slices.overlaps[loop.example/g00344/impl.Leaf]", "slices.overlaps[[]loop.example/g00344/impl.Leaf]"], unfollowed := true, recurses := true, apart := false, narrowed := true }
def FnExactStepStoreUptoSaid : Prop := fnExactStepStoreUptoRow.holds Try.pinned (OpenSpec.upto fnExactStepStoreSpec)

end Rows
end Go.Proofs.Ytifpekpmnlcmoaa
