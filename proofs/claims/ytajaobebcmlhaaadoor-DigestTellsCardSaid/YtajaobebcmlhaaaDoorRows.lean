/-
  NARROWER THAN 'FOR EVERY INPUT', by the rows' own cells (each row's printed sentence says how): DigestTells: laid · DigestParts: laid · DigestLong: laid · DigestBlocks: laid · DigestStays: laid · MacTells: laid · MacBegins: laid · MacKeys: laid · MacSame: laid · MacParts: laid · MacLong: laid.
  DERIVED. THE GIVEN ROWS OF THIS SEAT. 11 by the template 'for every input the law returns true; each argument reads behind the call as it read before'; 0 by the template 'total and deterministic' (their statements: YtajaobebcmlhaaaDoorTotals.lean).
  GIVEN WITH THE SEED: the statements are not yours to turn. If you find one false, say at which input.
  Laid BY PROGRAM, IN A SANDBOX (cutbox-rows.mjs): the forced cells as the released guide's own fill.sh prints them over the translation a882d22780cb3488… (all of the seat's roots in one cut). By AI agents, Wed Nov 11 2026. No macro, syntax, notation, axiom, sorry.
-/
import Derived.Test.YtajaobebcmlhaaaDoorChecked
import GoSem.Claim
import GoSem.ClaimJoined
import GoSem.ClaimMapViews
import Derived.JoinedTies
import Derived.KernelRfl
namespace Go.Proofs.YtajaobebcmlhaaaDoor
/- THE CELL 'sum', in the pinned program and in every row, IS THE sha256 OF THE DUMP (.gsa) THAT YtajaobebcmlhaaaDoorProg.lean LOADS. Nothing in Lean hashes anything: it is a label: what it is worth is what the hold of that sum in a sandbox is worth. -/
noncomputable def Tryd.pinned : Pinned := { name := "ytajaobebcmlhaaadoor", sum := "a882d22780cb34885faa1a7249099fe50355184c39ce692e3ebaf59d209dc0c0", checked := Tryd.checked }
namespace Rows
def none {H : Type} : Left H := { results := [], args := [] }

/- WHAT THE LISTED PACKAGE-LEVEL VARIABLES READ AS WHEN THE CALL BEGINS. Each datum BY PROGRAM (the guide's laid-datum.mjs) off the statement by which the dump's own 'gosem.cut.vars' lays the variable. In a bare row this is a premise. The card (YtajaobebcmlhaaaDoorCards.lean) ties it to the program's text. -/
def laid_columbarium_digest_round {H : Type} : DataW H := .agg [.lit (.int .u32 1116352408), .lit (.int .u32 1899447441), .lit (.int .u32 3049323471), .lit (.int .u32 3921009573), .lit (.int .u32 961987163), .lit (.int .u32 1508970993), .lit (.int .u32 2453635748), .lit (.int .u32 2870763221), .lit (.int .u32 3624381080), .lit (.int .u32 310598401), .lit (.int .u32 607225278), .lit (.int .u32 1426881987), .lit (.int .u32 1925078388), .lit (.int .u32 2162078206), .lit (.int .u32 2614888103), .lit (.int .u32 3248222580), .lit (.int .u32 3835390401), .lit (.int .u32 4022224774), .lit (.int .u32 264347078), .lit (.int .u32 604807628), .lit (.int .u32 770255983), .lit (.int .u32 1249150122), .lit (.int .u32 1555081692), .lit (.int .u32 1996064986), .lit (.int .u32 2554220882), .lit (.int .u32 2821834349), .lit (.int .u32 2952996808), .lit (.int .u32 3210313671), .lit (.int .u32 3336571891), .lit (.int .u32 3584528711), .lit (.int .u32 113926993), .lit (.int .u32 338241895), .lit (.int .u32 666307205), .lit (.int .u32 773529912), .lit (.int .u32 1294757372), .lit (.int .u32 1396182291), .lit (.int .u32 1695183700), .lit (.int .u32 1986661051), .lit (.int .u32 2177026350), .lit (.int .u32 2456956037), .lit (.int .u32 2730485921), .lit (.int .u32 2820302411), .lit (.int .u32 3259730800), .lit (.int .u32 3345764771), .lit (.int .u32 3516065817), .lit (.int .u32 3600352804), .lit (.int .u32 4094571909), .lit (.int .u32 275423344), .lit (.int .u32 430227734), .lit (.int .u32 506948616), .lit (.int .u32 659060556), .lit (.int .u32 883997877), .lit (.int .u32 958139571), .lit (.int .u32 1322822218), .lit (.int .u32 1537002063), .lit (.int .u32 1747873779), .lit (.int .u32 1955562222), .lit (.int .u32 2024104815), .lit (.int .u32 2227730452), .lit (.int .u32 2361852424), .lit (.int .u32 2428436474), .lit (.int .u32 2756734187), .lit (.int .u32 3204031479), .lit (.int .u32 3329325298)]

/-- 'columbariumlaw01.DigestTells': WHATEVER THE INPUT: true; the input reads as it did. -/
def digestTellsSpec : ChangeSpec := { name := "digestTells", fn := fun _ => fun
  | [d1, d2, d3, d4] => { results := [.lit (.bool true)], args := [d1, d2, d3, d4] }
  | _ => none }
def digestTellsRow : OpenClaim := { program := "ytajaobebcmlhaaadoor", sum := "a882d22780cb34885faa1a7249099fe50355184c39ce692e3ebaf59d209dc0c0", func := "columbarium/columbariumlaw01.DigestTells", spec := "digestTells", inPlace := ["internal/abi.NoEscape", "internal/bytealg.MakeNoZero"], unfollowed := true, recurses := true, named := ["columbarium/digest.round"], apart := false, laid := [("columbarium/digest.round", laid_columbarium_digest_round)] }
def DigestTellsSaid : Prop := digestTellsRow.holds Tryd.pinned (OpenSpec.ofChange digestTellsSpec)

/-- ITS FALSE NEIGHBOUR: 'it returns false'. Refute it at one input. -/
def digestTellsWrong : ChangeSpec := { name := "digestTells", fn := fun _ => fun
  | [d1, d2, d3, d4] => { results := [.lit (.bool false)], args := [d1, d2, d3, d4] }
  | _ => none }
def DigestTellsWrongFalsely : Prop := digestTellsRow.holds Tryd.pinned (OpenSpec.ofChange digestTellsWrong)

/-- 'columbariumlaw01.DigestParts': WHATEVER THE INPUT: true; the input reads as it did. -/
def digestPartsSpec : ChangeSpec := { name := "digestParts", fn := fun _ => fun
  | [d1, d2] => { results := [.lit (.bool true)], args := [d1, d2] }
  | _ => none }
def digestPartsRow : OpenClaim := { program := "ytajaobebcmlhaaadoor", sum := "a882d22780cb34885faa1a7249099fe50355184c39ce692e3ebaf59d209dc0c0", func := "columbarium/columbariumlaw01.DigestParts", spec := "digestParts", inPlace := ["internal/abi.NoEscape", "internal/bytealg.MakeNoZero"], unfollowed := true, recurses := true, named := ["columbarium/digest.round"], apart := false, laid := [("columbarium/digest.round", laid_columbarium_digest_round)] }
def DigestPartsSaid : Prop := digestPartsRow.holds Tryd.pinned (OpenSpec.ofChange digestPartsSpec)

/-- ITS FALSE NEIGHBOUR: 'it returns false'. Refute it at one input. -/
def digestPartsWrong : ChangeSpec := { name := "digestParts", fn := fun _ => fun
  | [d1, d2] => { results := [.lit (.bool false)], args := [d1, d2] }
  | _ => none }
def DigestPartsWrongFalsely : Prop := digestPartsRow.holds Tryd.pinned (OpenSpec.ofChange digestPartsWrong)

/-- 'columbariumlaw01.DigestLong': WHATEVER THE INPUT: true; the input reads as it did. -/
def digestLongSpec : ChangeSpec := { name := "digestLong", fn := fun _ => fun
  | [d1, d2, d3] => { results := [.lit (.bool true)], args := [d1, d2, d3] }
  | _ => none }
def digestLongRow : OpenClaim := { program := "ytajaobebcmlhaaadoor", sum := "a882d22780cb34885faa1a7249099fe50355184c39ce692e3ebaf59d209dc0c0", func := "columbarium/columbariumlaw01.DigestLong", spec := "digestLong", inPlace := ["internal/abi.NoEscape", "internal/bytealg.MakeNoZero"], unfollowed := true, recurses := true, named := ["columbarium/digest.round"], apart := false, laid := [("columbarium/digest.round", laid_columbarium_digest_round)] }
def DigestLongSaid : Prop := digestLongRow.holds Tryd.pinned (OpenSpec.ofChange digestLongSpec)

/-- ITS FALSE NEIGHBOUR: 'it returns false'. Refute it at one input. -/
def digestLongWrong : ChangeSpec := { name := "digestLong", fn := fun _ => fun
  | [d1, d2, d3] => { results := [.lit (.bool false)], args := [d1, d2, d3] }
  | _ => none }
def DigestLongWrongFalsely : Prop := digestLongRow.holds Tryd.pinned (OpenSpec.ofChange digestLongWrong)

/-- 'columbariumlaw01.DigestBlocks': WHATEVER THE INPUT: true; the input reads as it did. -/
def digestBlocksSpec : ChangeSpec := { name := "digestBlocks", fn := fun _ => fun
  | [d] => { results := [.lit (.bool true)], args := [d] }
  | _ => none }
def digestBlocksRow : OpenClaim := { program := "ytajaobebcmlhaaadoor", sum := "a882d22780cb34885faa1a7249099fe50355184c39ce692e3ebaf59d209dc0c0", func := "columbarium/columbariumlaw01.DigestBlocks", spec := "digestBlocks", inPlace := ["internal/abi.NoEscape", "internal/bytealg.MakeNoZero"], unfollowed := true, recurses := true, named := ["columbarium/digest.round"], apart := false, laid := [("columbarium/digest.round", laid_columbarium_digest_round)] }
def DigestBlocksSaid : Prop := digestBlocksRow.holds Tryd.pinned (OpenSpec.ofChange digestBlocksSpec)

/-- ITS FALSE NEIGHBOUR: 'it returns false'. Refute it at one input. -/
def digestBlocksWrong : ChangeSpec := { name := "digestBlocks", fn := fun _ => fun
  | [d] => { results := [.lit (.bool false)], args := [d] }
  | _ => none }
def DigestBlocksWrongFalsely : Prop := digestBlocksRow.holds Tryd.pinned (OpenSpec.ofChange digestBlocksWrong)

/-- 'columbariumlaw01.DigestStays': WHATEVER THE INPUT: true; the input reads as it did. -/
def digestStaysSpec : ChangeSpec := { name := "digestStays", fn := fun _ => fun
  | [d] => { results := [.lit (.bool true)], args := [d] }
  | _ => none }
def digestStaysRow : OpenClaim := { program := "ytajaobebcmlhaaadoor", sum := "a882d22780cb34885faa1a7249099fe50355184c39ce692e3ebaf59d209dc0c0", func := "columbarium/columbariumlaw01.DigestStays", spec := "digestStays", inPlace := ["internal/abi.NoEscape", "internal/bytealg.MakeNoZero"], unfollowed := true, recurses := true, named := ["columbarium/digest.round"], apart := false, laid := [("columbarium/digest.round", laid_columbarium_digest_round)] }
def DigestStaysSaid : Prop := digestStaysRow.holds Tryd.pinned (OpenSpec.ofChange digestStaysSpec)

/-- ITS FALSE NEIGHBOUR: 'it returns false'. Refute it at one input. -/
def digestStaysWrong : ChangeSpec := { name := "digestStays", fn := fun _ => fun
  | [d] => { results := [.lit (.bool false)], args := [d] }
  | _ => none }
def DigestStaysWrongFalsely : Prop := digestStaysRow.holds Tryd.pinned (OpenSpec.ofChange digestStaysWrong)

/-- 'columbariumlaw02.MacTells': WHATEVER THE INPUT: true; the input reads as it did. -/
def macTellsSpec : ChangeSpec := { name := "macTells", fn := fun _ => fun
  | [d1, d2, d3, d4, d5] => { results := [.lit (.bool true)], args := [d1, d2, d3, d4, d5] }
  | _ => none }
def macTellsRow : OpenClaim := { program := "ytajaobebcmlhaaadoor", sum := "a882d22780cb34885faa1a7249099fe50355184c39ce692e3ebaf59d209dc0c0", func := "columbarium/columbariumlaw02.MacTells", spec := "macTells", inPlace := ["internal/abi.NoEscape", "internal/bytealg.MakeNoZero", "sync/atomic.AddInt64", "sync/atomic.LoadInt64"], unfollowed := true, recurses := true, named := ["columbarium/digest.round"], apart := false, laid := [("columbarium/digest.round", laid_columbarium_digest_round)] }
def MacTellsSaid : Prop := macTellsRow.holds Tryd.pinned (OpenSpec.ofChange macTellsSpec)

/-- ITS FALSE NEIGHBOUR: 'it returns false'. Refute it at one input. -/
def macTellsWrong : ChangeSpec := { name := "macTells", fn := fun _ => fun
  | [d1, d2, d3, d4, d5] => { results := [.lit (.bool false)], args := [d1, d2, d3, d4, d5] }
  | _ => none }
def MacTellsWrongFalsely : Prop := macTellsRow.holds Tryd.pinned (OpenSpec.ofChange macTellsWrong)

/-- 'columbariumlaw02.MacBegins': WHATEVER THE INPUT: true; the input reads as it did. -/
def macBeginsSpec : ChangeSpec := { name := "macBegins", fn := fun _ => fun
  | [d1, d2, d3, d4] => { results := [.lit (.bool true)], args := [d1, d2, d3, d4] }
  | _ => none }
def macBeginsRow : OpenClaim := { program := "ytajaobebcmlhaaadoor", sum := "a882d22780cb34885faa1a7249099fe50355184c39ce692e3ebaf59d209dc0c0", func := "columbarium/columbariumlaw02.MacBegins", spec := "macBegins", inPlace := ["internal/abi.NoEscape", "internal/bytealg.MakeNoZero", "sync/atomic.AddInt64", "sync/atomic.LoadInt64"], unfollowed := true, recurses := true, named := ["columbarium/digest.round"], apart := false, laid := [("columbarium/digest.round", laid_columbarium_digest_round)] }
def MacBeginsSaid : Prop := macBeginsRow.holds Tryd.pinned (OpenSpec.ofChange macBeginsSpec)

/-- ITS FALSE NEIGHBOUR: 'it returns false'. Refute it at one input. -/
def macBeginsWrong : ChangeSpec := { name := "macBegins", fn := fun _ => fun
  | [d1, d2, d3, d4] => { results := [.lit (.bool false)], args := [d1, d2, d3, d4] }
  | _ => none }
def MacBeginsWrongFalsely : Prop := macBeginsRow.holds Tryd.pinned (OpenSpec.ofChange macBeginsWrong)

/-- 'columbariumlaw02.MacKeys': WHATEVER THE INPUT: true; the input reads as it did. -/
def macKeysSpec : ChangeSpec := { name := "macKeys", fn := fun _ => fun
  | [d1, d2, d3] => { results := [.lit (.bool true)], args := [d1, d2, d3] }
  | _ => none }
def macKeysRow : OpenClaim := { program := "ytajaobebcmlhaaadoor", sum := "a882d22780cb34885faa1a7249099fe50355184c39ce692e3ebaf59d209dc0c0", func := "columbarium/columbariumlaw02.MacKeys", spec := "macKeys", inPlace := ["internal/abi.NoEscape", "internal/bytealg.MakeNoZero", "sync/atomic.AddInt64", "sync/atomic.LoadInt64"], unfollowed := true, recurses := true, named := ["columbarium/digest.round"], apart := false, laid := [("columbarium/digest.round", laid_columbarium_digest_round)] }
def MacKeysSaid : Prop := macKeysRow.holds Tryd.pinned (OpenSpec.ofChange macKeysSpec)

/-- ITS FALSE NEIGHBOUR: 'it returns false'. Refute it at one input. -/
def macKeysWrong : ChangeSpec := { name := "macKeys", fn := fun _ => fun
  | [d1, d2, d3] => { results := [.lit (.bool false)], args := [d1, d2, d3] }
  | _ => none }
def MacKeysWrongFalsely : Prop := macKeysRow.holds Tryd.pinned (OpenSpec.ofChange macKeysWrong)

/-- 'columbariumlaw02.MacSame': WHATEVER THE INPUT: true; the input reads as it did. -/
def macSameSpec : ChangeSpec := { name := "macSame", fn := fun _ => fun
  | [d1, d2, d3] => { results := [.lit (.bool true)], args := [d1, d2, d3] }
  | _ => none }
def macSameRow : OpenClaim := { program := "ytajaobebcmlhaaadoor", sum := "a882d22780cb34885faa1a7249099fe50355184c39ce692e3ebaf59d209dc0c0", func := "columbarium/columbariumlaw02.MacSame", spec := "macSame", inPlace := ["internal/abi.NoEscape", "internal/bytealg.MakeNoZero", "sync/atomic.AddInt64", "sync/atomic.LoadInt64"], unfollowed := true, recurses := true, named := ["columbarium/digest.round"], apart := false, laid := [("columbarium/digest.round", laid_columbarium_digest_round)] }
def MacSameSaid : Prop := macSameRow.holds Tryd.pinned (OpenSpec.ofChange macSameSpec)

/-- ITS FALSE NEIGHBOUR: 'it returns false'. Refute it at one input. -/
def macSameWrong : ChangeSpec := { name := "macSame", fn := fun _ => fun
  | [d1, d2, d3] => { results := [.lit (.bool false)], args := [d1, d2, d3] }
  | _ => none }
def MacSameWrongFalsely : Prop := macSameRow.holds Tryd.pinned (OpenSpec.ofChange macSameWrong)

/-- 'columbariumlaw02.MacParts': WHATEVER THE INPUT: true; the input reads as it did. -/
def macPartsSpec : ChangeSpec := { name := "macParts", fn := fun _ => fun
  | [d1, d2, d3] => { results := [.lit (.bool true)], args := [d1, d2, d3] }
  | _ => none }
def macPartsRow : OpenClaim := { program := "ytajaobebcmlhaaadoor", sum := "a882d22780cb34885faa1a7249099fe50355184c39ce692e3ebaf59d209dc0c0", func := "columbarium/columbariumlaw02.MacParts", spec := "macParts", inPlace := ["internal/abi.NoEscape", "internal/bytealg.MakeNoZero", "sync/atomic.AddInt64", "sync/atomic.LoadInt64"], unfollowed := true, recurses := true, named := ["columbarium/digest.round"], apart := false, laid := [("columbarium/digest.round", laid_columbarium_digest_round)] }
def MacPartsSaid : Prop := macPartsRow.holds Tryd.pinned (OpenSpec.ofChange macPartsSpec)

/-- ITS FALSE NEIGHBOUR: 'it returns false'. Refute it at one input. -/
def macPartsWrong : ChangeSpec := { name := "macParts", fn := fun _ => fun
  | [d1, d2, d3] => { results := [.lit (.bool false)], args := [d1, d2, d3] }
  | _ => none }
def MacPartsWrongFalsely : Prop := macPartsRow.holds Tryd.pinned (OpenSpec.ofChange macPartsWrong)

/-- 'columbariumlaw02.MacLong': WHATEVER THE INPUT: true; the input reads as it did. -/
def macLongSpec : ChangeSpec := { name := "macLong", fn := fun _ => fun
  | [d1, d2, d3] => { results := [.lit (.bool true)], args := [d1, d2, d3] }
  | _ => none }
def macLongRow : OpenClaim := { program := "ytajaobebcmlhaaadoor", sum := "a882d22780cb34885faa1a7249099fe50355184c39ce692e3ebaf59d209dc0c0", func := "columbarium/columbariumlaw02.MacLong", spec := "macLong", inPlace := ["internal/abi.NoEscape", "internal/bytealg.MakeNoZero", "sync/atomic.AddInt64", "sync/atomic.LoadInt64"], unfollowed := true, recurses := true, named := ["columbarium/digest.round"], apart := false, laid := [("columbarium/digest.round", laid_columbarium_digest_round)] }
def MacLongSaid : Prop := macLongRow.holds Tryd.pinned (OpenSpec.ofChange macLongSpec)

/-- ITS FALSE NEIGHBOUR: 'it returns false'. Refute it at one input. -/
def macLongWrong : ChangeSpec := { name := "macLong", fn := fun _ => fun
  | [d1, d2, d3] => { results := [.lit (.bool false)], args := [d1, d2, d3] }
  | _ => none }
def MacLongWrongFalsely : Prop := macLongRow.holds Tryd.pinned (OpenSpec.ofChange macLongWrong)

/- THE SECOND FORM. 'bulk': how many values and letters a reading holds, each counted each time it is reached (what is shared counts as often as it is met; a slice's spare places count too). A statement '..UptoSaid' is the law's where the arguments, and the package variables that the reading takes, are together of bulk at most 1048576: NARROWER than '..Said'. Prove '..Said' where nothing that the law and all that it calls make is longer than what came in: it says more and counts as full. Else prove '..UptoSaid'. A law counts once. -/
mutual
def uptoBulk {H : Type} : DataW H → Nat
  | .lit (.string bytes) => bytes.length + 1
  | .lit _ => 1
  | .nil => 1
  | .ptr d => uptoBulk d + 1
  | .slice elems spare => uptoBulkAll elems + uptoBulkAll spare + 1
  | .agg parts => uptoBulkAll parts + 1
  | .iface _ d => uptoBulk d + 1
  | .map entries => uptoBulkEntries entries + 1
  | .held _ => 1
def uptoBulkAll {H : Type} : List (DataW H) → Nat
  | [] => 0
  | d :: r => uptoBulk d + uptoBulkAll r
def uptoBulkEntries {H : Type} : List (Lit × DataW H) → Nat
  | [] => 0
  | x :: r => uptoBulkEntry x + uptoBulkEntries r
def uptoBulkEntry {H : Type} : Lit × DataW H → Nat
  | (.string bytes, d) => bytes.length + uptoBulk d + 1
  | (_, d) => uptoBulk d + 1
 end
def uptoSmall : (H : Type) → List (DataW H) → Bool := fun _ ds => decide (uptoBulkAll ds ≤ 1048576)
def OpenSpec.upto (s : _root_.Go.ChangeSpec) : _root_.Go.OpenSpec := { _root_.Go.OpenSpec.ofChange s with cond := some uptoSmall }

/-- 'columbariumlaw01.DigestTells', WHERE WHAT IT READS IS OF BULK AT MOST 1048576: true; the input reads as it did. -/
def digestTellsUptoRow : OpenClaim := { program := "ytajaobebcmlhaaadoor", sum := "a882d22780cb34885faa1a7249099fe50355184c39ce692e3ebaf59d209dc0c0", func := "columbarium/columbariumlaw01.DigestTells", spec := "digestTells", inPlace := ["internal/abi.NoEscape", "internal/bytealg.MakeNoZero"], unfollowed := true, recurses := true, named := ["columbarium/digest.round"], apart := false, laid := [("columbarium/digest.round", laid_columbarium_digest_round)], narrowed := true }
def DigestTellsUptoSaid : Prop := digestTellsUptoRow.holds Tryd.pinned (OpenSpec.upto digestTellsSpec)

/-- 'columbariumlaw01.DigestParts', WHERE WHAT IT READS IS OF BULK AT MOST 1048576: true; the input reads as it did. -/
def digestPartsUptoRow : OpenClaim := { program := "ytajaobebcmlhaaadoor", sum := "a882d22780cb34885faa1a7249099fe50355184c39ce692e3ebaf59d209dc0c0", func := "columbarium/columbariumlaw01.DigestParts", spec := "digestParts", inPlace := ["internal/abi.NoEscape", "internal/bytealg.MakeNoZero"], unfollowed := true, recurses := true, named := ["columbarium/digest.round"], apart := false, laid := [("columbarium/digest.round", laid_columbarium_digest_round)], narrowed := true }
def DigestPartsUptoSaid : Prop := digestPartsUptoRow.holds Tryd.pinned (OpenSpec.upto digestPartsSpec)

/-- 'columbariumlaw01.DigestLong', WHERE WHAT IT READS IS OF BULK AT MOST 1048576: true; the input reads as it did. -/
def digestLongUptoRow : OpenClaim := { program := "ytajaobebcmlhaaadoor", sum := "a882d22780cb34885faa1a7249099fe50355184c39ce692e3ebaf59d209dc0c0", func := "columbarium/columbariumlaw01.DigestLong", spec := "digestLong", inPlace := ["internal/abi.NoEscape", "internal/bytealg.MakeNoZero"], unfollowed := true, recurses := true, named := ["columbarium/digest.round"], apart := false, laid := [("columbarium/digest.round", laid_columbarium_digest_round)], narrowed := true }
def DigestLongUptoSaid : Prop := digestLongUptoRow.holds Tryd.pinned (OpenSpec.upto digestLongSpec)

/-- 'columbariumlaw01.DigestBlocks', WHERE WHAT IT READS IS OF BULK AT MOST 1048576: true; the input reads as it did. -/
def digestBlocksUptoRow : OpenClaim := { program := "ytajaobebcmlhaaadoor", sum := "a882d22780cb34885faa1a7249099fe50355184c39ce692e3ebaf59d209dc0c0", func := "columbarium/columbariumlaw01.DigestBlocks", spec := "digestBlocks", inPlace := ["internal/abi.NoEscape", "internal/bytealg.MakeNoZero"], unfollowed := true, recurses := true, named := ["columbarium/digest.round"], apart := false, laid := [("columbarium/digest.round", laid_columbarium_digest_round)], narrowed := true }
def DigestBlocksUptoSaid : Prop := digestBlocksUptoRow.holds Tryd.pinned (OpenSpec.upto digestBlocksSpec)

/-- 'columbariumlaw01.DigestStays', WHERE WHAT IT READS IS OF BULK AT MOST 1048576: true; the input reads as it did. -/
def digestStaysUptoRow : OpenClaim := { program := "ytajaobebcmlhaaadoor", sum := "a882d22780cb34885faa1a7249099fe50355184c39ce692e3ebaf59d209dc0c0", func := "columbarium/columbariumlaw01.DigestStays", spec := "digestStays", inPlace := ["internal/abi.NoEscape", "internal/bytealg.MakeNoZero"], unfollowed := true, recurses := true, named := ["columbarium/digest.round"], apart := false, laid := [("columbarium/digest.round", laid_columbarium_digest_round)], narrowed := true }
def DigestStaysUptoSaid : Prop := digestStaysUptoRow.holds Tryd.pinned (OpenSpec.upto digestStaysSpec)

/-- 'columbariumlaw02.MacTells', WHERE WHAT IT READS IS OF BULK AT MOST 1048576: true; the input reads as it did. -/
def macTellsUptoRow : OpenClaim := { program := "ytajaobebcmlhaaadoor", sum := "a882d22780cb34885faa1a7249099fe50355184c39ce692e3ebaf59d209dc0c0", func := "columbarium/columbariumlaw02.MacTells", spec := "macTells", inPlace := ["internal/abi.NoEscape", "internal/bytealg.MakeNoZero", "sync/atomic.AddInt64", "sync/atomic.LoadInt64"], unfollowed := true, recurses := true, named := ["columbarium/digest.round"], apart := false, laid := [("columbarium/digest.round", laid_columbarium_digest_round)], narrowed := true }
def MacTellsUptoSaid : Prop := macTellsUptoRow.holds Tryd.pinned (OpenSpec.upto macTellsSpec)

/-- 'columbariumlaw02.MacBegins', WHERE WHAT IT READS IS OF BULK AT MOST 1048576: true; the input reads as it did. -/
def macBeginsUptoRow : OpenClaim := { program := "ytajaobebcmlhaaadoor", sum := "a882d22780cb34885faa1a7249099fe50355184c39ce692e3ebaf59d209dc0c0", func := "columbarium/columbariumlaw02.MacBegins", spec := "macBegins", inPlace := ["internal/abi.NoEscape", "internal/bytealg.MakeNoZero", "sync/atomic.AddInt64", "sync/atomic.LoadInt64"], unfollowed := true, recurses := true, named := ["columbarium/digest.round"], apart := false, laid := [("columbarium/digest.round", laid_columbarium_digest_round)], narrowed := true }
def MacBeginsUptoSaid : Prop := macBeginsUptoRow.holds Tryd.pinned (OpenSpec.upto macBeginsSpec)

/-- 'columbariumlaw02.MacKeys', WHERE WHAT IT READS IS OF BULK AT MOST 1048576: true; the input reads as it did. -/
def macKeysUptoRow : OpenClaim := { program := "ytajaobebcmlhaaadoor", sum := "a882d22780cb34885faa1a7249099fe50355184c39ce692e3ebaf59d209dc0c0", func := "columbarium/columbariumlaw02.MacKeys", spec := "macKeys", inPlace := ["internal/abi.NoEscape", "internal/bytealg.MakeNoZero", "sync/atomic.AddInt64", "sync/atomic.LoadInt64"], unfollowed := true, recurses := true, named := ["columbarium/digest.round"], apart := false, laid := [("columbarium/digest.round", laid_columbarium_digest_round)], narrowed := true }
def MacKeysUptoSaid : Prop := macKeysUptoRow.holds Tryd.pinned (OpenSpec.upto macKeysSpec)

/-- 'columbariumlaw02.MacSame', WHERE WHAT IT READS IS OF BULK AT MOST 1048576: true; the input reads as it did. -/
def macSameUptoRow : OpenClaim := { program := "ytajaobebcmlhaaadoor", sum := "a882d22780cb34885faa1a7249099fe50355184c39ce692e3ebaf59d209dc0c0", func := "columbarium/columbariumlaw02.MacSame", spec := "macSame", inPlace := ["internal/abi.NoEscape", "internal/bytealg.MakeNoZero", "sync/atomic.AddInt64", "sync/atomic.LoadInt64"], unfollowed := true, recurses := true, named := ["columbarium/digest.round"], apart := false, laid := [("columbarium/digest.round", laid_columbarium_digest_round)], narrowed := true }
def MacSameUptoSaid : Prop := macSameUptoRow.holds Tryd.pinned (OpenSpec.upto macSameSpec)

/-- 'columbariumlaw02.MacParts', WHERE WHAT IT READS IS OF BULK AT MOST 1048576: true; the input reads as it did. -/
def macPartsUptoRow : OpenClaim := { program := "ytajaobebcmlhaaadoor", sum := "a882d22780cb34885faa1a7249099fe50355184c39ce692e3ebaf59d209dc0c0", func := "columbarium/columbariumlaw02.MacParts", spec := "macParts", inPlace := ["internal/abi.NoEscape", "internal/bytealg.MakeNoZero", "sync/atomic.AddInt64", "sync/atomic.LoadInt64"], unfollowed := true, recurses := true, named := ["columbarium/digest.round"], apart := false, laid := [("columbarium/digest.round", laid_columbarium_digest_round)], narrowed := true }
def MacPartsUptoSaid : Prop := macPartsUptoRow.holds Tryd.pinned (OpenSpec.upto macPartsSpec)

/-- 'columbariumlaw02.MacLong', WHERE WHAT IT READS IS OF BULK AT MOST 1048576: true; the input reads as it did. -/
def macLongUptoRow : OpenClaim := { program := "ytajaobebcmlhaaadoor", sum := "a882d22780cb34885faa1a7249099fe50355184c39ce692e3ebaf59d209dc0c0", func := "columbarium/columbariumlaw02.MacLong", spec := "macLong", inPlace := ["internal/abi.NoEscape", "internal/bytealg.MakeNoZero", "sync/atomic.AddInt64", "sync/atomic.LoadInt64"], unfollowed := true, recurses := true, named := ["columbarium/digest.round"], apart := false, laid := [("columbarium/digest.round", laid_columbarium_digest_round)], narrowed := true }
def MacLongUptoSaid : Prop := macLongUptoRow.holds Tryd.pinned (OpenSpec.upto macLongSpec)

end Rows
end Go.Proofs.YtajaobebcmlhaaaDoor
