/-
  No cell of these rows narrows 'for every input' (looked for: loops, veiled, ifaces, maps, wideKeys, modest, calm, conditions, laid).
  DERIVED. THE GIVEN ROWS OF THIS SEAT. 9 by the template 'for every input the law returns true; each argument reads behind the call as it read before'; 0 by the template 'total and deterministic' (their statements: YtcfinlmocgbnbaaTotals.lean).
  GIVEN WITH THE SEED: the statements are not yours to turn. If you find one false, say at which input.
  Laid BY PROGRAM, IN A SANDBOX (cutbox-rows.mjs): the forced cells as the released guide's own fill.sh prints them over the translation 8e700148bb25665f… (all of the seat's roots in one cut). By AI agents, Wed Nov 11 2026. No macro, syntax, notation, axiom, sorry.
-/
import Derived.Test.YtcfinlmocgbnbaaChecked
import GoSem.Claim
import GoSem.ClaimJoined
import GoSem.ClaimMapViews
import Derived.JoinedTies
import Derived.KernelRfl
namespace Go.Proofs.Ytcfinlmocgbnbaa
/- THE CELL 'sum', in the pinned program and in every row, IS THE sha256 OF THE DUMP (.gsa) THAT YtcfinlmocgbnbaaProg.lean LOADS. Nothing in Lean hashes anything: it is a label: what it is worth is what the hold of that sum in a sandbox is worth. -/
noncomputable def Try.pinned : Pinned := { name := "ytcfinlmocgbnbaa", sum := "8e700148bb25665f7a7c4fb758d48381d765df3f5e32cd95527248e3a26b40e8", checked := Try.checked }
namespace Rows
def none {H : Type} : Left H := { results := [], args := [] }

/-- 'columbariumlaw14.DiskTells': WHATEVER THE INPUT: true; the input reads as it did. -/
def diskTellsSpec : ChangeSpec := { name := "diskTells", fn := fun _ => fun
  | [d1, d2, d3, d4, d5, d6] => { results := [.lit (.bool true)], args := [d1, d2, d3, d4, d5, d6] }
  | _ => none }
def diskTellsRow : OpenClaim := { program := "ytcfinlmocgbnbaa", sum := "8e700148bb25665f7a7c4fb758d48381d765df3f5e32cd95527248e3a26b40e8", func := "columbarium/columbariumlaw14.DiskTells", spec := "diskTells", inPlace := ["internal/abi.NoEscape", "internal/bytealg.MakeNoZero"], unfollowed := true, recurses := true, apart := false }
def DiskTellsSaid : Prop := diskTellsRow.holds Try.pinned (OpenSpec.ofChange diskTellsSpec)

/-- ITS FALSE NEIGHBOUR: 'it returns false'. Refute it at one input. -/
def diskTellsWrong : ChangeSpec := { name := "diskTells", fn := fun _ => fun
  | [d1, d2, d3, d4, d5, d6] => { results := [.lit (.bool false)], args := [d1, d2, d3, d4, d5, d6] }
  | _ => none }
def DiskTellsWrongFalsely : Prop := diskTellsRow.holds Try.pinned (OpenSpec.ofChange diskTellsWrong)

/-- 'columbariumlaw14.DiskLast': WHATEVER THE INPUT: true; the input reads as it did. -/
def diskLastSpec : ChangeSpec := { name := "diskLast", fn := fun _ => fun
  | [d1, d2] => { results := [.lit (.bool true)], args := [d1, d2] }
  | _ => none }
def diskLastRow : OpenClaim := { program := "ytcfinlmocgbnbaa", sum := "8e700148bb25665f7a7c4fb758d48381d765df3f5e32cd95527248e3a26b40e8", func := "columbarium/columbariumlaw14.DiskLast", spec := "diskLast", inPlace := ["internal/abi.NoEscape", "internal/bytealg.MakeNoZero"], unfollowed := true, recurses := true, apart := false }
def DiskLastSaid : Prop := diskLastRow.holds Try.pinned (OpenSpec.ofChange diskLastSpec)

/-- ITS FALSE NEIGHBOUR: 'it returns false'. Refute it at one input. -/
def diskLastWrong : ChangeSpec := { name := "diskLast", fn := fun _ => fun
  | [d1, d2] => { results := [.lit (.bool false)], args := [d1, d2] }
  | _ => none }
def DiskLastWrongFalsely : Prop := diskLastRow.holds Try.pinned (OpenSpec.ofChange diskLastWrong)

/-- 'columbariumlaw14.DiskCrashes': WHATEVER THE INPUT: true; the input reads as it did. -/
def diskCrashesSpec : ChangeSpec := { name := "diskCrashes", fn := fun _ => fun
  | [d1, d2, d3, d4] => { results := [.lit (.bool true)], args := [d1, d2, d3, d4] }
  | _ => none }
def diskCrashesRow : OpenClaim := { program := "ytcfinlmocgbnbaa", sum := "8e700148bb25665f7a7c4fb758d48381d765df3f5e32cd95527248e3a26b40e8", func := "columbarium/columbariumlaw14.DiskCrashes", spec := "diskCrashes", inPlace := ["internal/abi.NoEscape", "internal/bytealg.MakeNoZero"], unfollowed := true, recurses := true, apart := false }
def DiskCrashesSaid : Prop := diskCrashesRow.holds Try.pinned (OpenSpec.ofChange diskCrashesSpec)

/-- ITS FALSE NEIGHBOUR: 'it returns false'. Refute it at one input. -/
def diskCrashesWrong : ChangeSpec := { name := "diskCrashes", fn := fun _ => fun
  | [d1, d2, d3, d4] => { results := [.lit (.bool false)], args := [d1, d2, d3, d4] }
  | _ => none }
def DiskCrashesWrongFalsely : Prop := diskCrashesRow.holds Try.pinned (OpenSpec.ofChange diskCrashesWrong)

/-- 'columbariumlaw14.DiskBlocks': WHATEVER THE INPUT: true; the input reads as it did. -/
def diskBlocksSpec : ChangeSpec := { name := "diskBlocks", fn := fun _ => fun
  | [d1, d2, d3] => { results := [.lit (.bool true)], args := [d1, d2, d3] }
  | _ => none }
def diskBlocksRow : OpenClaim := { program := "ytcfinlmocgbnbaa", sum := "8e700148bb25665f7a7c4fb758d48381d765df3f5e32cd95527248e3a26b40e8", func := "columbarium/columbariumlaw14.DiskBlocks", spec := "diskBlocks", inPlace := ["internal/abi.NoEscape", "internal/bytealg.MakeNoZero"], unfollowed := true, recurses := true, apart := false }
def DiskBlocksSaid : Prop := diskBlocksRow.holds Try.pinned (OpenSpec.ofChange diskBlocksSpec)

/-- ITS FALSE NEIGHBOUR: 'it returns false'. Refute it at one input. -/
def diskBlocksWrong : ChangeSpec := { name := "diskBlocks", fn := fun _ => fun
  | [d1, d2, d3] => { results := [.lit (.bool false)], args := [d1, d2, d3] }
  | _ => none }
def DiskBlocksWrongFalsely : Prop := diskBlocksRow.holds Try.pinned (OpenSpec.ofChange diskBlocksWrong)

/-- 'columbariumlaw14.DiskTwice': WHATEVER THE INPUT: true; the input reads as it did. -/
def diskTwiceSpec : ChangeSpec := { name := "diskTwice", fn := fun _ => fun
  | [d1, d2, d3] => { results := [.lit (.bool true)], args := [d1, d2, d3] }
  | _ => none }
def diskTwiceRow : OpenClaim := { program := "ytcfinlmocgbnbaa", sum := "8e700148bb25665f7a7c4fb758d48381d765df3f5e32cd95527248e3a26b40e8", func := "columbarium/columbariumlaw14.DiskTwice", spec := "diskTwice", inPlace := ["internal/abi.NoEscape", "internal/bytealg.MakeNoZero"], unfollowed := true, recurses := true, apart := false }
def DiskTwiceSaid : Prop := diskTwiceRow.holds Try.pinned (OpenSpec.ofChange diskTwiceSpec)

/-- ITS FALSE NEIGHBOUR: 'it returns false'. Refute it at one input. -/
def diskTwiceWrong : ChangeSpec := { name := "diskTwice", fn := fun _ => fun
  | [d1, d2, d3] => { results := [.lit (.bool false)], args := [d1, d2, d3] }
  | _ => none }
def DiskTwiceWrongFalsely : Prop := diskTwiceRow.holds Try.pinned (OpenSpec.ofChange diskTwiceWrong)

/-- 'columbariumlaw15.VaultKeeps': WHATEVER THE INPUT: true; the input reads as it did. -/
def vaultKeepsSpec : ChangeSpec := { name := "vaultKeeps", fn := fun _ => fun
  | [d1, d2] => { results := [.lit (.bool true)], args := [d1, d2] }
  | _ => none }
def vaultKeepsRow : OpenClaim := { program := "ytcfinlmocgbnbaa", sum := "8e700148bb25665f7a7c4fb758d48381d765df3f5e32cd95527248e3a26b40e8", func := "columbarium/columbariumlaw15.VaultKeeps", spec := "vaultKeeps", inPlace := ["internal/abi.NoEscape", "internal/bytealg.MakeNoZero"], unfollowed := true, recurses := true, apart := false }
def VaultKeepsSaid : Prop := vaultKeepsRow.holds Try.pinned (OpenSpec.ofChange vaultKeepsSpec)

/-- ITS FALSE NEIGHBOUR: 'it returns false'. Refute it at one input. -/
def vaultKeepsWrong : ChangeSpec := { name := "vaultKeeps", fn := fun _ => fun
  | [d1, d2] => { results := [.lit (.bool false)], args := [d1, d2] }
  | _ => none }
def VaultKeepsWrongFalsely : Prop := vaultKeepsRow.holds Try.pinned (OpenSpec.ofChange vaultKeepsWrong)

/-- 'columbariumlaw15.VaultCrashes': WHATEVER THE INPUT: true; the input reads as it did. -/
def vaultCrashesSpec : ChangeSpec := { name := "vaultCrashes", fn := fun _ => fun
  | [d1, d2, d3] => { results := [.lit (.bool true)], args := [d1, d2, d3] }
  | _ => none }
def vaultCrashesRow : OpenClaim := { program := "ytcfinlmocgbnbaa", sum := "8e700148bb25665f7a7c4fb758d48381d765df3f5e32cd95527248e3a26b40e8", func := "columbarium/columbariumlaw15.VaultCrashes", spec := "vaultCrashes", inPlace := ["internal/abi.NoEscape", "internal/bytealg.MakeNoZero"], unfollowed := true, recurses := true, apart := false }
def VaultCrashesSaid : Prop := vaultCrashesRow.holds Try.pinned (OpenSpec.ofChange vaultCrashesSpec)

/-- ITS FALSE NEIGHBOUR: 'it returns false'. Refute it at one input. -/
def vaultCrashesWrong : ChangeSpec := { name := "vaultCrashes", fn := fun _ => fun
  | [d1, d2, d3] => { results := [.lit (.bool false)], args := [d1, d2, d3] }
  | _ => none }
def VaultCrashesWrongFalsely : Prop := vaultCrashesRow.holds Try.pinned (OpenSpec.ofChange vaultCrashesWrong)

/-- 'columbariumlaw15.VaultMoves': WHATEVER THE INPUT: true; the input reads as it did. -/
def vaultMovesSpec : ChangeSpec := { name := "vaultMoves", fn := fun _ => fun
  | [d1, d2, d3, d4] => { results := [.lit (.bool true)], args := [d1, d2, d3, d4] }
  | _ => none }
def vaultMovesRow : OpenClaim := { program := "ytcfinlmocgbnbaa", sum := "8e700148bb25665f7a7c4fb758d48381d765df3f5e32cd95527248e3a26b40e8", func := "columbarium/columbariumlaw15.VaultMoves", spec := "vaultMoves", inPlace := ["internal/abi.NoEscape", "internal/bytealg.MakeNoZero"], unfollowed := true, recurses := true, apart := false }
def VaultMovesSaid : Prop := vaultMovesRow.holds Try.pinned (OpenSpec.ofChange vaultMovesSpec)

/-- ITS FALSE NEIGHBOUR: 'it returns false'. Refute it at one input. -/
def vaultMovesWrong : ChangeSpec := { name := "vaultMoves", fn := fun _ => fun
  | [d1, d2, d3, d4] => { results := [.lit (.bool false)], args := [d1, d2, d3, d4] }
  | _ => none }
def VaultMovesWrongFalsely : Prop := vaultMovesRow.holds Try.pinned (OpenSpec.ofChange vaultMovesWrong)

/-- 'columbariumlaw15.VaultHalves': WHATEVER THE INPUT: true; the input reads as it did. -/
def vaultHalvesSpec : ChangeSpec := { name := "vaultHalves", fn := fun _ => fun
  | [d1, d2, d3, d4] => { results := [.lit (.bool true)], args := [d1, d2, d3, d4] }
  | _ => none }
def vaultHalvesRow : OpenClaim := { program := "ytcfinlmocgbnbaa", sum := "8e700148bb25665f7a7c4fb758d48381d765df3f5e32cd95527248e3a26b40e8", func := "columbarium/columbariumlaw15.VaultHalves", spec := "vaultHalves", inPlace := ["internal/abi.NoEscape", "internal/bytealg.MakeNoZero"], unfollowed := true, recurses := true, apart := false }
def VaultHalvesSaid : Prop := vaultHalvesRow.holds Try.pinned (OpenSpec.ofChange vaultHalvesSpec)

/-- ITS FALSE NEIGHBOUR: 'it returns false'. Refute it at one input. -/
def vaultHalvesWrong : ChangeSpec := { name := "vaultHalves", fn := fun _ => fun
  | [d1, d2, d3, d4] => { results := [.lit (.bool false)], args := [d1, d2, d3, d4] }
  | _ => none }
def VaultHalvesWrongFalsely : Prop := vaultHalvesRow.holds Try.pinned (OpenSpec.ofChange vaultHalvesWrong)

/- THE SECOND FORM. 'bulk': how many values and letters a reading holds, each counted each time it is reached (what is shared counts as often as it is met; a slice's spare places count too). A statement '..UptoSaid' is the law's where the arguments, and the package variables that the reading takes, are together of bulk at most 1048576: NARROWER than '..Said'. Prove '..Said' where nothing that the law and all that it calls make is longer than what came in: it says more and counts as full. Else prove '..UptoSaid'. A law counts once. -/
mutual
def uptoBulk {H : Type} : DataW H → Nat
  | .lit (.string bytes) => bytes.length + 1
  | .lit _ => 1
  | .nil => 1
  | .ptr d => uptoBulk d + 1
  | .slice elems spare => uptoBulkAll elems + uptoBulkAll spare + 1
  | .agg parts => uptoBulkAll parts + 1
  | .iface _ d => uptoBulk d + 1
  | .map entries => uptoBulkEntries entries + 1
  | .held _ => 1
def uptoBulkAll {H : Type} : List (DataW H) → Nat
  | [] => 0
  | d :: r => uptoBulk d + uptoBulkAll r
def uptoBulkEntries {H : Type} : List (Lit × DataW H) → Nat
  | [] => 0
  | x :: r => uptoBulkEntry x + uptoBulkEntries r
def uptoBulkEntry {H : Type} : Lit × DataW H → Nat
  | (.string bytes, d) => bytes.length + uptoBulk d + 1
  | (_, d) => uptoBulk d + 1
 end
def uptoSmall : (H : Type) → List (DataW H) → Bool := fun _ ds => decide (uptoBulkAll ds ≤ 1048576)
def OpenSpec.upto (s : _root_.Go.ChangeSpec) : _root_.Go.OpenSpec := { _root_.Go.OpenSpec.ofChange s with cond := some uptoSmall }

/-- 'columbariumlaw14.DiskTells', WHERE WHAT IT READS IS OF BULK AT MOST 1048576: true; the input reads as it did. -/
def diskTellsUptoRow : OpenClaim := { program := "ytcfinlmocgbnbaa", sum := "8e700148bb25665f7a7c4fb758d48381d765df3f5e32cd95527248e3a26b40e8", func := "columbarium/columbariumlaw14.DiskTells", spec := "diskTells", inPlace := ["internal/abi.NoEscape", "internal/bytealg.MakeNoZero"], unfollowed := true, recurses := true, apart := false, narrowed := true }
def DiskTellsUptoSaid : Prop := diskTellsUptoRow.holds Try.pinned (OpenSpec.upto diskTellsSpec)

/-- 'columbariumlaw14.DiskLast', WHERE WHAT IT READS IS OF BULK AT MOST 1048576: true; the input reads as it did. -/
def diskLastUptoRow : OpenClaim := { program := "ytcfinlmocgbnbaa", sum := "8e700148bb25665f7a7c4fb758d48381d765df3f5e32cd95527248e3a26b40e8", func := "columbarium/columbariumlaw14.DiskLast", spec := "diskLast", inPlace := ["internal/abi.NoEscape", "internal/bytealg.MakeNoZero"], unfollowed := true, recurses := true, apart := false, narrowed := true }
def DiskLastUptoSaid : Prop := diskLastUptoRow.holds Try.pinned (OpenSpec.upto diskLastSpec)

/-- 'columbariumlaw14.DiskCrashes', WHERE WHAT IT READS IS OF BULK AT MOST 1048576: true; the input reads as it did. -/
def diskCrashesUptoRow : OpenClaim := { program := "ytcfinlmocgbnbaa", sum := "8e700148bb25665f7a7c4fb758d48381d765df3f5e32cd95527248e3a26b40e8", func := "columbarium/columbariumlaw14.DiskCrashes", spec := "diskCrashes", inPlace := ["internal/abi.NoEscape", "internal/bytealg.MakeNoZero"], unfollowed := true, recurses := true, apart := false, narrowed := true }
def DiskCrashesUptoSaid : Prop := diskCrashesUptoRow.holds Try.pinned (OpenSpec.upto diskCrashesSpec)

/-- 'columbariumlaw14.DiskBlocks', WHERE WHAT IT READS IS OF BULK AT MOST 1048576: true; the input reads as it did. -/
def diskBlocksUptoRow : OpenClaim := { program := "ytcfinlmocgbnbaa", sum := "8e700148bb25665f7a7c4fb758d48381d765df3f5e32cd95527248e3a26b40e8", func := "columbarium/columbariumlaw14.DiskBlocks", spec := "diskBlocks", inPlace := ["internal/abi.NoEscape", "internal/bytealg.MakeNoZero"], unfollowed := true, recurses := true, apart := false, narrowed := true }
def DiskBlocksUptoSaid : Prop := diskBlocksUptoRow.holds Try.pinned (OpenSpec.upto diskBlocksSpec)

/-- 'columbariumlaw14.DiskTwice', WHERE WHAT IT READS IS OF BULK AT MOST 1048576: true; the input reads as it did. -/
def diskTwiceUptoRow : OpenClaim := { program := "ytcfinlmocgbnbaa", sum := "8e700148bb25665f7a7c4fb758d48381d765df3f5e32cd95527248e3a26b40e8", func := "columbarium/columbariumlaw14.DiskTwice", spec := "diskTwice", inPlace := ["internal/abi.NoEscape", "internal/bytealg.MakeNoZero"], unfollowed := true, recurses := true, apart := false, narrowed := true }
def DiskTwiceUptoSaid : Prop := diskTwiceUptoRow.holds Try.pinned (OpenSpec.upto diskTwiceSpec)

/-- 'columbariumlaw15.VaultKeeps', WHERE WHAT IT READS IS OF BULK AT MOST 1048576: true; the input reads as it did. -/
def vaultKeepsUptoRow : OpenClaim := { program := "ytcfinlmocgbnbaa", sum := "8e700148bb25665f7a7c4fb758d48381d765df3f5e32cd95527248e3a26b40e8", func := "columbarium/columbariumlaw15.VaultKeeps", spec := "vaultKeeps", inPlace := ["internal/abi.NoEscape", "internal/bytealg.MakeNoZero"], unfollowed := true, recurses := true, apart := false, narrowed := true }
def VaultKeepsUptoSaid : Prop := vaultKeepsUptoRow.holds Try.pinned (OpenSpec.upto vaultKeepsSpec)

/-- 'columbariumlaw15.VaultCrashes', WHERE WHAT IT READS IS OF BULK AT MOST 1048576: true; the input reads as it did. -/
def vaultCrashesUptoRow : OpenClaim := { program := "ytcfinlmocgbnbaa", sum := "8e700148bb25665f7a7c4fb758d48381d765df3f5e32cd95527248e3a26b40e8", func := "columbarium/columbariumlaw15.VaultCrashes", spec := "vaultCrashes", inPlace := ["internal/abi.NoEscape", "internal/bytealg.MakeNoZero"], unfollowed := true, recurses := true, apart := false, narrowed := true }
def VaultCrashesUptoSaid : Prop := vaultCrashesUptoRow.holds Try.pinned (OpenSpec.upto vaultCrashesSpec)

/-- 'columbariumlaw15.VaultMoves', WHERE WHAT IT READS IS OF BULK AT MOST 1048576: true; the input reads as it did. -/
def vaultMovesUptoRow : OpenClaim := { program := "ytcfinlmocgbnbaa", sum := "8e700148bb25665f7a7c4fb758d48381d765df3f5e32cd95527248e3a26b40e8", func := "columbarium/columbariumlaw15.VaultMoves", spec := "vaultMoves", inPlace := ["internal/abi.NoEscape", "internal/bytealg.MakeNoZero"], unfollowed := true, recurses := true, apart := false, narrowed := true }
def VaultMovesUptoSaid : Prop := vaultMovesUptoRow.holds Try.pinned (OpenSpec.upto vaultMovesSpec)

/-- 'columbariumlaw15.VaultHalves', WHERE WHAT IT READS IS OF BULK AT MOST 1048576: true; the input reads as it did. -/
def vaultHalvesUptoRow : OpenClaim := { program := "ytcfinlmocgbnbaa", sum := "8e700148bb25665f7a7c4fb758d48381d765df3f5e32cd95527248e3a26b40e8", func := "columbarium/columbariumlaw15.VaultHalves", spec := "vaultHalves", inPlace := ["internal/abi.NoEscape", "internal/bytealg.MakeNoZero"], unfollowed := true, recurses := true, apart := false, narrowed := true }
def VaultHalvesUptoSaid : Prop := vaultHalvesUptoRow.holds Try.pinned (OpenSpec.upto vaultHalvesSpec)

end Rows
end Go.Proofs.Ytcfinlmocgbnbaa
