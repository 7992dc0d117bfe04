/-
  A text of what the row IdealHangs reaches, laid together by a program of this session (wip/tools/shake.py) out of this seat's texts. No condition but the ones that each lemma names.
-/
import Derived.Test.YtmkncddbecmlpaaZIdealHangs1
import Derived.Test.YtmkncddbecmlpaaZIdealHangs2
import Derived.Test.YtmkncddbecmlpaaZIdealHangs3
import Derived.Test.YtmkncddbecmlpaaZIdealHangs4
set_option linter.unusedVariables false
set_option linter.unusedSimpArgs false
section
namespace Go.Proofs.Ytmkncddbecmlpaa.Pr
open Go.Proofs.Ytmkncddbecmlpaa.Sq Go.RowKit Go.Proofs.YtmkncddbecmlpaaW.PrintWords Go.Proofs.YtmkncddbecmlpaaW.PrintLast Go.Proofs.YtmkncddbecmlpaaW.PrintMore
attribute [local go_sem] max2_int min2_int max_two min_two max_three min_three max_four min_four
set_option linter.unusedVariables false
set_option linter.unusedSimpArgs false
attribute [local go_sem high] eqA23
mutual
def columbariumlaw08_IdealHangs.j0 : Nat → List Int → Int → Bool → Bool → ByteArray → Int → List (S72) → List (S74) → Bool → ByteArray → Int → List (S72) → List (S74) → Bool → Option (Bool)
 | 0, _, _, _, _, _, _, _, _, _, _, _, _, _, _ => none
 | k + 1, x2, x3, x9, x39, xz15000, xz15001, xz15002, xz15003, xz15004, xz28000, xz28001, xz28002, xz28003, xz28004 => if x39 = true then (none) else (columbariumlaw08_IdealHangs.l0 k x2 x3 x9 0 xz15000 xz15001 xz15002 xz15003 xz15004 xz28000 xz28001 xz28002 xz28003 xz28004)
def columbariumlaw08_IdealHangs.l0 : Nat → List Int → Int → Bool → Int → ByteArray → Int → List (S72) → List (S74) → Bool → ByteArray → Int → List (S72) → List (S74) → Bool → Option (Bool)
 | 0, _, _, _, _, _, _, _, _, _, _, _, _, _, _ => none
 | k + 1, x2, x3, x9, x14, xz15000, xz15001, xz15002, xz15003, xz15004, xz28000, xz28001, xz28002, xz28003, xz28004 => if x14 < (x2.length : Int) then (columbariumlaw08_IdealHangs.j2 k x2 x3 x9 x14 (decide (x14 < 15)) xz15000 xz15001 xz15002 xz15003 xz15004 xz28000 xz28001 xz28002 xz28003 xz28004) else (columbariumlaw08_IdealHangs.j2 k x2 x3 x9 x14 false xz15000 xz15001 xz15002 xz15003 xz15004 xz28000 xz28001 xz28002 xz28003 xz28004)
def columbariumlaw08_IdealHangs.j2 : Nat → List Int → Int → Bool → Int → Bool → ByteArray → Int → List (S72) → List (S74) → Bool → ByteArray → Int → List (S72) → List (S74) → Bool → Option (Bool)
 | 0, _, _, _, _, _, _, _, _, _, _, _, _, _, _, _ => none
 | k + 1, x2, x3, x9, x14, x47, xz15000, xz15001, xz15002, xz15003, xz15004, xz28000, xz28001, xz28002, xz28003, xz28004 => if x47 = true then ((some (([(x14) % 256] : List Int) : List Int)).bind fun yz28 => ((columbariumlaw08_pick.f x3 200).bind fun tz31 => (if 0 ≤ x14 then (if x14 < (x2.length : Int) then ((columbariumlaw08_pick.f (rd x2 x14) 2).bind fun tz36 => (if tz36 = 0 then ((ideal_Label.f k xz15000 xz15001 xz15002 xz15003 xz15004 (strOfNums yz28)).bind fun btz37 => ((ideal_Label.f k xz28000 xz28001 xz28002 xz28003 xz28004 (strOfNums (([(wrap64 ((wrap64 (x14 + 1)) + tz31)) % 256, 121] : List Int)))).bind fun btz48 => (if btz37.2.2.2.2.2.2 = 0 then (if btz48.2.2.2.2.2.2 = 0 then (if btz37.1.toList = btz48.1.toList then (if (!(btz37.2.1.toList == btz48.2.1.toList) || (!(btz37.2.2.1 == btz48.2.2.1))) = true then (none) else (columbariumlaw08_IdealHangs.l0 k x2 x3 x9 (wrap64 (x14 + 1)) btz37.2.1 btz37.2.2.1 btz37.2.2.2.1 btz37.2.2.2.2.1 btz37.2.2.2.2.2.1 btz48.2.1 btz48.2.2.1 btz48.2.2.2.1 btz48.2.2.2.2.1 btz48.2.2.2.2.2.1)) else (none)) else (none)) else (none)))) else (if 15 ≤ 281474976710656 then ((some (List.replicate 15 0 : List Int)).bind fun yz59 => (if (strOfNums yz28).size + (strOfNums yz59).size ≤ 9223372036854775807 then (if 24 ≤ 281474976710656 then ((ideal_Seal.f k xz15000 xz15001 xz15002 xz15003 xz15004 ((strOfNums yz28) ++ (strOfNums yz59)) (strOfNums (List.replicate 24 0))).bind fun btz65 => ((some (List.replicate 15 0 : List Int)).bind fun yz76 => (if (strOfNums yz76).size + (strOfNums yz28).size ≤ 9223372036854775807 then (if 23 ≤ 281474976710656 then ((some (List.replicate 23 0 : List Int)).bind fun yz79 => (if (strOfNums yz28).size + (strOfNums yz79).size ≤ 9223372036854775807 then ((ideal_Seal.f k xz28000 xz28001 xz28002 xz28003 xz28004 ((strOfNums yz76) ++ (strOfNums yz28)) ((strOfNums yz28) ++ (strOfNums yz79))).bind fun btz82 => (if btz65.2.2.2.2.2.2 = 0 then (if btz82.2.2.2.2.2.2 = 0 then (if btz65.1.toList = btz82.1.toList then (if (!(btz65.2.1.toList == btz82.2.1.toList) || (!(btz65.2.2.1 == btz82.2.2.1))) = true then (none) else (columbariumlaw08_IdealHangs.l0 k x2 x3 x9 (wrap64 (x14 + 1)) btz65.2.1 btz65.2.2.1 btz65.2.2.2.1 btz65.2.2.2.2.1 btz65.2.2.2.2.2.1 btz82.2.1 btz82.2.2.1 btz82.2.2.2.1 btz82.2.2.2.2.1 btz82.2.2.2.2.2.1)) else (none)) else (none)) else (none))) else (none))) else (none)) else (none)))) else (none)) else (none))) else (none)))) else (none)) else (none)))) else (some x9)
end
def columbariumlaw08_IdealHangs.f (k : Nat) (l0 : List Int) (a1 : Bool) (l2 : List Int) (a3 : Int) : Option (Bool) := (columbariumlaw08_awake.f k).bind fun tz1 => ((columbariumlaw08_Draws.f k l0 a1).bind fun btz2 => ((ideal_New.f btz2.1 btz2.2).bind fun btz4 => ((columbariumlaw08_Draws.f k l0 a1).bind fun btz15 => ((ideal_New.f btz15.1 btz15.2).bind fun btz17 => (if btz4.2.2.2.2.2 = 0 then (columbariumlaw08_IdealHangs.j0 k l2 a3 tz1 (btz17.2.2.2.2.2 != 0) btz4.1 btz4.2.1 btz4.2.2.1 btz4.2.2.2.1 btz4.2.2.2.2.1 btz17.1 btz17.2.1 btz17.2.2.1 btz17.2.2.2.1 btz17.2.2.2.2.1) else (columbariumlaw08_IdealHangs.j0 k l2 a3 tz1 true btz4.1 btz4.2.1 btz4.2.2.1 btz4.2.2.2.1 btz4.2.2.2.2.1 btz17.1 btz17.2.1 btz17.2.2.1 btz17.2.2.2.1 btz17.2.2.2.2.1))))))
def columbariumlaw08_IdealHangs.T16 : Bool × List (List Nat × List Nat) := (true, [([], []), ([], []), ([], []), ([2], [2]), ([1, 3], [1, 3]), ([], []), ([5], [5]), ([0, 4, 6], [0, 4, 6]), ([7], [7]), ([8], [8]), ([8], [8]), ([8], [8]), ([9, 7, 0, 1, 2, 3, 4, 5, 6, 7, 8, 9], [9]), ([10, 12, 0, 1, 2, 3, 4, 5, 6, 7, 8, 9, 10, 12], [10]), ([11, 13, 0, 1, 2, 3, 4, 5, 6, 7, 8, 9, 10, 11, 12, 13], [11])])
def columbariumlaw08_IdealHangs.B16 : List Nat := [0, 0, 0, 4, 14, 0, 32, 127, 255, 511, 511, 511, 1023, 6143, 16383]
theorem columbariumlaw08_IdealHangs.tab16 : rtab .any (opsOf Try.f10 16) = columbariumlaw08_IdealHangs.T16 := by kernel_rfl
theorem columbariumlaw08_IdealHangs.bits16 : waitsOk columbariumlaw08_IdealHangs.T16.2 columbariumlaw08_IdealHangs.B16 = true := by kernel_rfl
def columbariumlaw08_IdealHangs.T17 : Bool × List (List Nat × List Nat) := (true, [([], []), ([], []), ([1], [1]), ([], []), ([2, 3], [2, 3]), ([], []), ([], []), ([6], [6]), ([5, 7], [5, 7]), ([0, 4, 8], [0, 4, 8]), ([9], [9]), ([10], [10]), ([10], [10]), ([10], [10]), ([11, 9, 0, 1, 2, 3, 4, 5, 6, 7, 8, 9, 10, 11], [11]), ([12, 14, 0, 1, 2, 3, 4, 5, 6, 7, 8, 9, 10, 11, 12, 14], [12]), ([13, 15, 0, 1, 2, 3, 4, 5, 6, 7, 8, 9, 10, 11, 12, 13, 14, 15], [13])])
def columbariumlaw08_IdealHangs.B17 : List Nat := [0, 0, 2, 0, 14, 0, 0, 64, 224, 511, 1023, 2047, 2047, 2047, 4095, 24575, 65535]
theorem columbariumlaw08_IdealHangs.tab17 : rtab .any (opsOf Try.f10 17) = columbariumlaw08_IdealHangs.T17 := by kernel_rfl
theorem columbariumlaw08_IdealHangs.bits17 : waitsOk columbariumlaw08_IdealHangs.T17.2 columbariumlaw08_IdealHangs.B17 = true := by kernel_rfl
end Go.Proofs.Ytmkncddbecmlpaa.Pr
end
