/-
  No cell of these rows narrows 'for every input' (looked for: loops, veiled, ifaces, maps, wideKeys, modest, calm, conditions, laid).
  DERIVED. THE GIVEN ROWS OF THIS SEAT. 11 by the template 'for every input the law returns true; each argument reads behind the call as it read before'; 0 by the template 'total and deterministic' (their statements: YtmkncddbecmlpaaTotals.lean).
  GIVEN WITH THE SEED: the statements are not yours to turn. If you find one false, say at which input.
  Laid BY PROGRAM, IN A SANDBOX (cutbox-rows.mjs): the forced cells as the released guide's own fill.sh prints them over the translation 8619409e0779d081… (all of the seat's roots in one cut). By AI agents, Wed Nov 11 2026. No macro, syntax, notation, axiom, sorry.
-/
import Derived.Test.YtmkncddbecmlpaaChecked
import GoSem.Claim
import GoSem.ClaimJoined
import GoSem.ClaimMapViews
import Derived.JoinedTies
import Derived.KernelRfl
namespace Go.Proofs.Ytmkncddbecmlpaa
/- THE CELL 'sum', in the pinned program and in every row, IS THE sha256 OF THE DUMP (.gsa) THAT YtmkncddbecmlpaaProg.lean LOADS. Nothing in Lean hashes anything: it is a label: what it is worth is what the hold of that sum in a sandbox is worth. -/
noncomputable def Try.pinned : Pinned := { name := "ytmkncddbecmlpaa", sum := "8619409e0779d08154927008ecf43aedb9ecb645f5769bfe1ac7ae80c50aa03c", checked := Try.checked }
namespace Rows
def none {H : Type} : Left H := { results := [], args := [] }

/-- 'columbariumlaw07.TapeTells': WHATEVER THE INPUT: true; the input reads as it did. -/
def tapeTellsSpec : ChangeSpec := { name := "tapeTells", fn := fun _ => fun
  | [d1, d2, d3, d4, d5] => { results := [.lit (.bool true)], args := [d1, d2, d3, d4, d5] }
  | _ => none }
def tapeTellsRow : OpenClaim := { program := "ytmkncddbecmlpaa", sum := "8619409e0779d08154927008ecf43aedb9ecb645f5769bfe1ac7ae80c50aa03c", func := "columbarium/columbariumlaw07.TapeTells", spec := "tapeTells", unfollowed := true, recurses := true, plainKeys := false, apart := false }
def TapeTellsSaid : Prop := tapeTellsRow.holds Try.pinned (OpenSpec.ofChange tapeTellsSpec)

/-- ITS FALSE NEIGHBOUR: 'it returns false'. Refute it at one input. -/
def tapeTellsWrong : ChangeSpec := { name := "tapeTells", fn := fun _ => fun
  | [d1, d2, d3, d4, d5] => { results := [.lit (.bool false)], args := [d1, d2, d3, d4, d5] }
  | _ => none }
def TapeTellsWrongFalsely : Prop := tapeTellsRow.holds Try.pinned (OpenSpec.ofChange tapeTellsWrong)

/-- 'columbariumlaw07.TapeParts': WHATEVER THE INPUT: true; the input reads as it did. -/
def tapePartsSpec : ChangeSpec := { name := "tapeParts", fn := fun _ => fun
  | [d1, d2, d3, d4, d5] => { results := [.lit (.bool true)], args := [d1, d2, d3, d4, d5] }
  | _ => none }
def tapePartsRow : OpenClaim := { program := "ytmkncddbecmlpaa", sum := "8619409e0779d08154927008ecf43aedb9ecb645f5769bfe1ac7ae80c50aa03c", func := "columbarium/columbariumlaw07.TapeParts", spec := "tapeParts", unfollowed := true, recurses := true, plainKeys := false, apart := false }
def TapePartsSaid : Prop := tapePartsRow.holds Try.pinned (OpenSpec.ofChange tapePartsSpec)

/-- ITS FALSE NEIGHBOUR: 'it returns false'. Refute it at one input. -/
def tapePartsWrong : ChangeSpec := { name := "tapeParts", fn := fun _ => fun
  | [d1, d2, d3, d4, d5] => { results := [.lit (.bool false)], args := [d1, d2, d3, d4, d5] }
  | _ => none }
def TapePartsWrongFalsely : Prop := tapePartsRow.holds Try.pinned (OpenSpec.ofChange tapePartsWrong)

/-- 'columbariumlaw07.TapeTurns': WHATEVER THE INPUT: true; the input reads as it did. -/
def tapeTurnsSpec : ChangeSpec := { name := "tapeTurns", fn := fun _ => fun
  | [d1, d2, d3] => { results := [.lit (.bool true)], args := [d1, d2, d3] }
  | _ => none }
def tapeTurnsRow : OpenClaim := { program := "ytmkncddbecmlpaa", sum := "8619409e0779d08154927008ecf43aedb9ecb645f5769bfe1ac7ae80c50aa03c", func := "columbarium/columbariumlaw07.TapeTurns", spec := "tapeTurns", unfollowed := true, recurses := true, plainKeys := false, apart := false }
def TapeTurnsSaid : Prop := tapeTurnsRow.holds Try.pinned (OpenSpec.ofChange tapeTurnsSpec)

/-- ITS FALSE NEIGHBOUR: 'it returns false'. Refute it at one input. -/
def tapeTurnsWrong : ChangeSpec := { name := "tapeTurns", fn := fun _ => fun
  | [d1, d2, d3] => { results := [.lit (.bool false)], args := [d1, d2, d3] }
  | _ => none }
def TapeTurnsWrongFalsely : Prop := tapeTurnsRow.holds Try.pinned (OpenSpec.ofChange tapeTurnsWrong)

/-- 'columbariumlaw07.TapeNumbers': WHATEVER THE INPUT: true; the input reads as it did. -/
def tapeNumbersSpec : ChangeSpec := { name := "tapeNumbers", fn := fun _ => fun
  | [d1, d2, d3] => { results := [.lit (.bool true)], args := [d1, d2, d3] }
  | _ => none }
def tapeNumbersRow : OpenClaim := { program := "ytmkncddbecmlpaa", sum := "8619409e0779d08154927008ecf43aedb9ecb645f5769bfe1ac7ae80c50aa03c", func := "columbarium/columbariumlaw07.TapeNumbers", spec := "tapeNumbers", unfollowed := true, recurses := true, plainKeys := false, apart := false }
def TapeNumbersSaid : Prop := tapeNumbersRow.holds Try.pinned (OpenSpec.ofChange tapeNumbersSpec)

/-- ITS FALSE NEIGHBOUR: 'it returns false'. Refute it at one input. -/
def tapeNumbersWrong : ChangeSpec := { name := "tapeNumbers", fn := fun _ => fun
  | [d1, d2, d3] => { results := [.lit (.bool false)], args := [d1, d2, d3] }
  | _ => none }
def TapeNumbersWrongFalsely : Prop := tapeNumbersRow.holds Try.pinned (OpenSpec.ofChange tapeNumbersWrong)

/-- 'columbariumlaw07.TapeKeeps': WHATEVER THE INPUT: true; the input reads as it did. -/
def tapeKeepsSpec : ChangeSpec := { name := "tapeKeeps", fn := fun _ => fun
  | [d1, d2] => { results := [.lit (.bool true)], args := [d1, d2] }
  | _ => none }
def tapeKeepsRow : OpenClaim := { program := "ytmkncddbecmlpaa", sum := "8619409e0779d08154927008ecf43aedb9ecb645f5769bfe1ac7ae80c50aa03c", func := "columbarium/columbariumlaw07.TapeKeeps", spec := "tapeKeeps", unfollowed := true, recurses := true, plainKeys := false, apart := false }
def TapeKeepsSaid : Prop := tapeKeepsRow.holds Try.pinned (OpenSpec.ofChange tapeKeepsSpec)

/-- ITS FALSE NEIGHBOUR: 'it returns false'. Refute it at one input. -/
def tapeKeepsWrong : ChangeSpec := { name := "tapeKeeps", fn := fun _ => fun
  | [d1, d2] => { results := [.lit (.bool false)], args := [d1, d2] }
  | _ => none }
def TapeKeepsWrongFalsely : Prop := tapeKeepsRow.holds Try.pinned (OpenSpec.ofChange tapeKeepsWrong)

/-- 'columbariumlaw08.IdealTells': WHATEVER THE INPUT: true; the input reads as it did. -/
def idealTellsSpec : ChangeSpec := { name := "idealTells", fn := fun _ => fun
  | [d1, d2, d3, d4, d5, d6, d7] => { results := [.lit (.bool true)], args := [d1, d2, d3, d4, d5, d6, d7] }
  | _ => none }
def idealTellsRow : OpenClaim := { program := "ytmkncddbecmlpaa", sum := "8619409e0779d08154927008ecf43aedb9ecb645f5769bfe1ac7ae80c50aa03c", func := "columbarium/columbariumlaw08.IdealTells", spec := "idealTells", unfollowed := true, recurses := true, plainKeys := false, apart := false }
def IdealTellsSaid : Prop := idealTellsRow.holds Try.pinned (OpenSpec.ofChange idealTellsSpec)

/-- ITS FALSE NEIGHBOUR: 'it returns false'. Refute it at one input. -/
def idealTellsWrong : ChangeSpec := { name := "idealTells", fn := fun _ => fun
  | [d1, d2, d3, d4, d5, d6, d7] => { results := [.lit (.bool false)], args := [d1, d2, d3, d4, d5, d6, d7] }
  | _ => none }
def IdealTellsWrongFalsely : Prop := idealTellsRow.holds Try.pinned (OpenSpec.ofChange idealTellsWrong)

/-- 'columbariumlaw08.IdealKeeps': WHATEVER THE INPUT: true; the input reads as it did. -/
def idealKeepsSpec : ChangeSpec := { name := "idealKeeps", fn := fun _ => fun
  | [d1, d2, d3] => { results := [.lit (.bool true)], args := [d1, d2, d3] }
  | _ => none }
def idealKeepsRow : OpenClaim := { program := "ytmkncddbecmlpaa", sum := "8619409e0779d08154927008ecf43aedb9ecb645f5769bfe1ac7ae80c50aa03c", func := "columbarium/columbariumlaw08.IdealKeeps", spec := "idealKeeps", unfollowed := true, recurses := true, plainKeys := false, apart := false }
def IdealKeepsSaid : Prop := idealKeepsRow.holds Try.pinned (OpenSpec.ofChange idealKeepsSpec)

/-- ITS FALSE NEIGHBOUR: 'it returns false'. Refute it at one input. -/
def idealKeepsWrong : ChangeSpec := { name := "idealKeeps", fn := fun _ => fun
  | [d1, d2, d3] => { results := [.lit (.bool false)], args := [d1, d2, d3] }
  | _ => none }
def IdealKeepsWrongFalsely : Prop := idealKeepsRow.holds Try.pinned (OpenSpec.ofChange idealKeepsWrong)

/-- 'columbariumlaw08.IdealHangs': WHATEVER THE INPUT: true; the input reads as it did. -/
def idealHangsSpec : ChangeSpec := { name := "idealHangs", fn := fun _ => fun
  | [d1, d2, d3, d4] => { results := [.lit (.bool true)], args := [d1, d2, d3, d4] }
  | _ => none }
def idealHangsRow : OpenClaim := { program := "ytmkncddbecmlpaa", sum := "8619409e0779d08154927008ecf43aedb9ecb645f5769bfe1ac7ae80c50aa03c", func := "columbarium/columbariumlaw08.IdealHangs", spec := "idealHangs", unfollowed := true, recurses := true, plainKeys := false, apart := false }
def IdealHangsSaid : Prop := idealHangsRow.holds Try.pinned (OpenSpec.ofChange idealHangsSpec)

/-- ITS FALSE NEIGHBOUR: 'it returns false'. Refute it at one input. -/
def idealHangsWrong : ChangeSpec := { name := "idealHangs", fn := fun _ => fun
  | [d1, d2, d3, d4] => { results := [.lit (.bool false)], args := [d1, d2, d3, d4] }
  | _ => none }
def IdealHangsWrongFalsely : Prop := idealHangsRow.holds Try.pinned (OpenSpec.ofChange idealHangsWrong)

/-- 'columbariumtop.Names': WHATEVER THE INPUT: true; the input reads as it did. -/
def namesSpec : ChangeSpec := { name := "names", fn := fun _ => fun
  | [] => { results := [.lit (.bool true)], args := [] }
  | _ => none }
def namesRow : OpenClaim := { program := "ytmkncddbecmlpaa", sum := "8619409e0779d08154927008ecf43aedb9ecb645f5769bfe1ac7ae80c50aa03c", func := "columbarium/columbariumtop.Names", spec := "names", plainKeys := false, apart := false }
def NamesSaid : Prop := namesRow.holds Try.pinned (OpenSpec.ofChange namesSpec)

/-- ITS FALSE NEIGHBOUR: 'it returns false'. Refute it at one input. -/
def namesWrong : ChangeSpec := { name := "names", fn := fun _ => fun
  | [] => { results := [.lit (.bool false)], args := [] }
  | _ => none }
def NamesWrongFalsely : Prop := namesRow.holds Try.pinned (OpenSpec.ofChange namesWrong)

/-- 'columbariumlaw08.IdealClash': WHATEVER THE INPUT: true; the input reads as it did. -/
def idealClashSpec : ChangeSpec := { name := "idealClash", fn := fun _ => fun
  | [d1, d2, d3] => { results := [.lit (.bool true)], args := [d1, d2, d3] }
  | _ => none }
def idealClashRow : OpenClaim := { program := "ytmkncddbecmlpaa", sum := "8619409e0779d08154927008ecf43aedb9ecb645f5769bfe1ac7ae80c50aa03c", func := "columbarium/columbariumlaw08.IdealClash", spec := "idealClash", unfollowed := true, recurses := true, plainKeys := false, apart := false }
def IdealClashSaid : Prop := idealClashRow.holds Try.pinned (OpenSpec.ofChange idealClashSpec)

/-- ITS FALSE NEIGHBOUR: 'it returns false'. Refute it at one input. -/
def idealClashWrong : ChangeSpec := { name := "idealClash", fn := fun _ => fun
  | [d1, d2, d3] => { results := [.lit (.bool false)], args := [d1, d2, d3] }
  | _ => none }
def IdealClashWrongFalsely : Prop := idealClashRow.holds Try.pinned (OpenSpec.ofChange idealClashWrong)

/-- 'columbariumlaw08.IdealNone': WHATEVER THE INPUT: true; the input reads as it did. -/
def idealNoneSpec : ChangeSpec := { name := "idealNone", fn := fun _ => fun
  | [d1, d2, d3, d4] => { results := [.lit (.bool true)], args := [d1, d2, d3, d4] }
  | _ => none }
def idealNoneRow : OpenClaim := { program := "ytmkncddbecmlpaa", sum := "8619409e0779d08154927008ecf43aedb9ecb645f5769bfe1ac7ae80c50aa03c", func := "columbarium/columbariumlaw08.IdealNone", spec := "idealNone", unfollowed := true, recurses := true, plainKeys := false, apart := false }
def IdealNoneSaid : Prop := idealNoneRow.holds Try.pinned (OpenSpec.ofChange idealNoneSpec)

/-- ITS FALSE NEIGHBOUR: 'it returns false'. Refute it at one input. -/
def idealNoneWrong : ChangeSpec := { name := "idealNone", fn := fun _ => fun
  | [d1, d2, d3, d4] => { results := [.lit (.bool false)], args := [d1, d2, d3, d4] }
  | _ => none }
def IdealNoneWrongFalsely : Prop := idealNoneRow.holds Try.pinned (OpenSpec.ofChange idealNoneWrong)

/- THE SECOND FORM. 'bulk': how many values and letters a reading holds, each counted each time it is reached (what is shared counts as often as it is met; a slice's spare places count too). A statement '..UptoSaid' is the law's where the arguments, and the package variables that the reading takes, are together of bulk at most 1048576: NARROWER than '..Said'. Prove '..Said' where nothing that the law and all that it calls make is longer than what came in: it says more and counts as full. Else prove '..UptoSaid'. A law counts once. -/
mutual
def uptoBulk {H : Type} : DataW H → Nat
  | .lit (.string bytes) => bytes.length + 1
  | .lit _ => 1
  | .nil => 1
  | .ptr d => uptoBulk d + 1
  | .slice elems spare => uptoBulkAll elems + uptoBulkAll spare + 1
  | .agg parts => uptoBulkAll parts + 1
  | .iface _ d => uptoBulk d + 1
  | .map entries => uptoBulkEntries entries + 1
  | .held _ => 1
def uptoBulkAll {H : Type} : List (DataW H) → Nat
  | [] => 0
  | d :: r => uptoBulk d + uptoBulkAll r
def uptoBulkEntries {H : Type} : List (Lit × DataW H) → Nat
  | [] => 0
  | x :: r => uptoBulkEntry x + uptoBulkEntries r
def uptoBulkEntry {H : Type} : Lit × DataW H → Nat
  | (.string bytes, d) => bytes.length + uptoBulk d + 1
  | (_, d) => uptoBulk d + 1
 end
def uptoSmall : (H : Type) → List (DataW H) → Bool := fun _ ds => decide (uptoBulkAll ds ≤ 1048576)
def OpenSpec.upto (s : _root_.Go.ChangeSpec) : _root_.Go.OpenSpec := { _root_.Go.OpenSpec.ofChange s with cond := some uptoSmall }

/-- 'columbariumlaw07.TapeTells', WHERE WHAT IT READS IS OF BULK AT MOST 1048576: true; the input reads as it did. -/
def tapeTellsUptoRow : OpenClaim := { program := "ytmkncddbecmlpaa", sum := "8619409e0779d08154927008ecf43aedb9ecb645f5769bfe1ac7ae80c50aa03c", func := "columbarium/columbariumlaw07.TapeTells", spec := "tapeTells", unfollowed := true, recurses := true, plainKeys := false, apart := false, narrowed := true }
def TapeTellsUptoSaid : Prop := tapeTellsUptoRow.holds Try.pinned (OpenSpec.upto tapeTellsSpec)

/-- 'columbariumlaw07.TapeParts', WHERE WHAT IT READS IS OF BULK AT MOST 1048576: true; the input reads as it did. -/
def tapePartsUptoRow : OpenClaim := { program := "ytmkncddbecmlpaa", sum := "8619409e0779d08154927008ecf43aedb9ecb645f5769bfe1ac7ae80c50aa03c", func := "columbarium/columbariumlaw07.TapeParts", spec := "tapeParts", unfollowed := true, recurses := true, plainKeys := false, apart := false, narrowed := true }
def TapePartsUptoSaid : Prop := tapePartsUptoRow.holds Try.pinned (OpenSpec.upto tapePartsSpec)

/-- 'columbariumlaw07.TapeTurns', WHERE WHAT IT READS IS OF BULK AT MOST 1048576: true; the input reads as it did. -/
def tapeTurnsUptoRow : OpenClaim := { program := "ytmkncddbecmlpaa", sum := "8619409e0779d08154927008ecf43aedb9ecb645f5769bfe1ac7ae80c50aa03c", func := "columbarium/columbariumlaw07.TapeTurns", spec := "tapeTurns", unfollowed := true, recurses := true, plainKeys := false, apart := false, narrowed := true }
def TapeTurnsUptoSaid : Prop := tapeTurnsUptoRow.holds Try.pinned (OpenSpec.upto tapeTurnsSpec)

/-- 'columbariumlaw07.TapeNumbers', WHERE WHAT IT READS IS OF BULK AT MOST 1048576: true; the input reads as it did. -/
def tapeNumbersUptoRow : OpenClaim := { program := "ytmkncddbecmlpaa", sum := "8619409e0779d08154927008ecf43aedb9ecb645f5769bfe1ac7ae80c50aa03c", func := "columbarium/columbariumlaw07.TapeNumbers", spec := "tapeNumbers", unfollowed := true, recurses := true, plainKeys := false, apart := false, narrowed := true }
def TapeNumbersUptoSaid : Prop := tapeNumbersUptoRow.holds Try.pinned (OpenSpec.upto tapeNumbersSpec)

/-- 'columbariumlaw07.TapeKeeps', WHERE WHAT IT READS IS OF BULK AT MOST 1048576: true; the input reads as it did. -/
def tapeKeepsUptoRow : OpenClaim := { program := "ytmkncddbecmlpaa", sum := "8619409e0779d08154927008ecf43aedb9ecb645f5769bfe1ac7ae80c50aa03c", func := "columbarium/columbariumlaw07.TapeKeeps", spec := "tapeKeeps", unfollowed := true, recurses := true, plainKeys := false, apart := false, narrowed := true }
def TapeKeepsUptoSaid : Prop := tapeKeepsUptoRow.holds Try.pinned (OpenSpec.upto tapeKeepsSpec)

/-- 'columbariumlaw08.IdealTells', WHERE WHAT IT READS IS OF BULK AT MOST 1048576: true; the input reads as it did. -/
def idealTellsUptoRow : OpenClaim := { program := "ytmkncddbecmlpaa", sum := "8619409e0779d08154927008ecf43aedb9ecb645f5769bfe1ac7ae80c50aa03c", func := "columbarium/columbariumlaw08.IdealTells", spec := "idealTells", unfollowed := true, recurses := true, plainKeys := false, apart := false, narrowed := true }
def IdealTellsUptoSaid : Prop := idealTellsUptoRow.holds Try.pinned (OpenSpec.upto idealTellsSpec)

/-- 'columbariumlaw08.IdealKeeps', WHERE WHAT IT READS IS OF BULK AT MOST 1048576: true; the input reads as it did. -/
def idealKeepsUptoRow : OpenClaim := { program := "ytmkncddbecmlpaa", sum := "8619409e0779d08154927008ecf43aedb9ecb645f5769bfe1ac7ae80c50aa03c", func := "columbarium/columbariumlaw08.IdealKeeps", spec := "idealKeeps", unfollowed := true, recurses := true, plainKeys := false, apart := false, narrowed := true }
def IdealKeepsUptoSaid : Prop := idealKeepsUptoRow.holds Try.pinned (OpenSpec.upto idealKeepsSpec)

/-- 'columbariumlaw08.IdealHangs', WHERE WHAT IT READS IS OF BULK AT MOST 1048576: true; the input reads as it did. -/
def idealHangsUptoRow : OpenClaim := { program := "ytmkncddbecmlpaa", sum := "8619409e0779d08154927008ecf43aedb9ecb645f5769bfe1ac7ae80c50aa03c", func := "columbarium/columbariumlaw08.IdealHangs", spec := "idealHangs", unfollowed := true, recurses := true, plainKeys := false, apart := false, narrowed := true }
def IdealHangsUptoSaid : Prop := idealHangsUptoRow.holds Try.pinned (OpenSpec.upto idealHangsSpec)

/-- 'columbariumtop.Names', WHERE WHAT IT READS IS OF BULK AT MOST 1048576: true; the input reads as it did. -/
def namesUptoRow : OpenClaim := { program := "ytmkncddbecmlpaa", sum := "8619409e0779d08154927008ecf43aedb9ecb645f5769bfe1ac7ae80c50aa03c", func := "columbarium/columbariumtop.Names", spec := "names", plainKeys := false, apart := false, narrowed := true }
def NamesUptoSaid : Prop := namesUptoRow.holds Try.pinned (OpenSpec.upto namesSpec)

/-- 'columbariumlaw08.IdealClash', WHERE WHAT IT READS IS OF BULK AT MOST 1048576: true; the input reads as it did. -/
def idealClashUptoRow : OpenClaim := { program := "ytmkncddbecmlpaa", sum := "8619409e0779d08154927008ecf43aedb9ecb645f5769bfe1ac7ae80c50aa03c", func := "columbarium/columbariumlaw08.IdealClash", spec := "idealClash", unfollowed := true, recurses := true, plainKeys := false, apart := false, narrowed := true }
def IdealClashUptoSaid : Prop := idealClashUptoRow.holds Try.pinned (OpenSpec.upto idealClashSpec)

/-- 'columbariumlaw08.IdealNone', WHERE WHAT IT READS IS OF BULK AT MOST 1048576: true; the input reads as it did. -/
def idealNoneUptoRow : OpenClaim := { program := "ytmkncddbecmlpaa", sum := "8619409e0779d08154927008ecf43aedb9ecb645f5769bfe1ac7ae80c50aa03c", func := "columbarium/columbariumlaw08.IdealNone", spec := "idealNone", unfollowed := true, recurses := true, plainKeys := false, apart := false, narrowed := true }
def IdealNoneUptoSaid : Prop := idealNoneUptoRow.holds Try.pinned (OpenSpec.upto idealNoneSpec)

end Rows
end Go.Proofs.Ytmkncddbecmlpaa
