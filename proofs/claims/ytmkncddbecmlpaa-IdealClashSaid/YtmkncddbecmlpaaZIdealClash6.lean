/-
  A text of what the row IdealClash reaches, laid together by a program of this session (wip/tools/shake.py) out of this seat's texts. No condition but the ones that each lemma names.
-/
import Derived.Test.YtmkncddbecmlpaaZIdealClash1
import Derived.Test.YtmkncddbecmlpaaZIdealClash3
import Derived.Test.YtmkncddbecmlpaaZIdealClash4
import Derived.Test.YtmkncddbecmlpaaZIdealClash5
set_option linter.unusedVariables false
set_option linter.unusedSimpArgs false
section
namespace Go.Proofs.Ytmkncddbecmlpaa.Pr
open Go.Proofs.Ytmkncddbecmlpaa.Sq Go.RowKit Go.Proofs.YtmkncddbecmlpaaW.PrintWords Go.Proofs.YtmkncddbecmlpaaW.PrintLast Go.Proofs.YtmkncddbecmlpaaW.PrintMore
attribute [local go_sem] max2_int min2_int max_two min_two max_three min_three max_four min_four
set_option linter.unusedVariables false
set_option linter.unusedSimpArgs false
mutual
def columbariumlaw08_IdealClash.l0 : Nat → List (S46) → Bool → Int → Int → ByteArray → Int → List (S72) → List (S74) → Bool → Option (Bool)
 | 0, _, _, _, _, _, _, _, _, _ => none
 | k + 1, x2, x7, x9, x10, xz15000, xz15001, xz15002, xz15003, xz15004 => if x10 < (x2.length : Int) then (columbariumlaw08_IdealClash.j1 k x2 x7 x9 x10 (decide (x10 < 15)) xz15000 xz15001 xz15002 xz15003 xz15004) else (columbariumlaw08_IdealClash.j1 k x2 x7 x9 x10 false xz15000 xz15001 xz15002 xz15003 xz15004)
def columbariumlaw08_IdealClash.j1 : Nat → List (S46) → Bool → Int → Int → Bool → ByteArray → Int → List (S72) → List (S74) → Bool → Option (Bool)
 | 0, _, _, _, _, _, _, _, _, _, _ => none
 | k + 1, x2, x7, x9, x10, x34, xz15000, xz15001, xz15002, xz15003, xz15004 => if x34 = true then (if 0 ≤ x10 then (if x10 < (x2.length : Int) then ((columbariumlaw08_pick.f ((rd_T46 x2 x10).f0) 2).bind fun tz17 => (if tz17 = 0 then ((columbariumlaw08_pick.f ((rd_T46 x2 x10).f1) 6).bind fun tz18 => ((ideal_Label.f k xz15000 xz15001 xz15002 xz15003 xz15004 (strOfNums (([(tz18) % 256] : List Int)))).bind fun btz22 => (if btz22.2.2.2.2.2.2 = 0 then (columbariumlaw08_IdealClash.l0 k x2 x7 x9 (wrap64 (x10 + 1)) btz22.2.1 btz22.2.2.1 btz22.2.2.2.1 btz22.2.2.2.2.1 btz22.2.2.2.2.2.1) else (none)))) else ((columbariumlaw08_Label.f ((rd_T46 x2 x10).f1)).bind fun tz33 => ((columbariumlaw08_Text.f ((rd_T46 x2 x10).f2)).bind fun tz34 => ((ideal_Seal.f k xz15000 xz15001 xz15002 xz15003 xz15004 tz33 tz34).bind fun btz35 => (if btz35.2.2.2.2.2.2 = 0 then (columbariumlaw08_IdealClash.l0 k x2 x7 x9 (wrap64 (x10 + 1)) btz35.2.1 btz35.2.2.1 btz35.2.2.2.1 btz35.2.2.2.2.1 btz35.2.2.2.2.2.1) else (none))))))) else (none)) else (none)) else (columbariumlaw08_IdealClash.l1 k x7 x9 false 0 xz15000 xz15001 xz15002 xz15003 xz15004)
def columbariumlaw08_IdealClash.l1 : Nat → Bool → Int → Bool → Int → ByteArray → Int → List (S72) → List (S74) → Bool → Option (Bool)
 | 0, _, _, _, _, _, _, _, _, _ => none
 | k + 1, x7, x9, x13, x14, xz15000, xz15001, xz15002, xz15003, xz15004 => if x14 < (xz15002.length : Int) then (columbariumlaw08_IdealClash.l2 k x7 x9 x13 x14 0 xz15000 xz15001 xz15002 xz15003 xz15004) else (columbariumlaw08_IdealClash.l3 k x7 x9 x13 0 xz15000 xz15001 xz15002 xz15003 xz15004)
def columbariumlaw08_IdealClash.l2 : Nat → Bool → Int → Bool → Int → Int → ByteArray → Int → List (S72) → List (S74) → Bool → Option (Bool)
 | 0, _, _, _, _, _, _, _, _, _, _ => none
 | k + 1, x7, x9, x13, x14, x15, xz15000, xz15001, xz15002, xz15003, xz15004 => if x15 < x14 then (if x13 = true then (if 0 ≤ x14 then (if x14 < (xz15002.length : Int) then (if 0 ≤ x15 then (if x15 < (xz15002.length : Int) then (if ((rd_T72 xz15002 x14).f0).toList = ((rd_T72 xz15002 x15).f0).toList then (none) else (columbariumlaw08_IdealClash.l2 k x7 x9 true x14 (wrap64 (x15 + 1)) xz15000 xz15001 xz15002 xz15003 xz15004)) else (none)) else (none)) else (none)) else (none)) else (if 0 ≤ x14 then (if x14 < (xz15002.length : Int) then (if 0 ≤ x15 then (if x15 < (xz15002.length : Int) then (if ((rd_T72 xz15002 x14).f0).toList = ((rd_T72 xz15002 x15).f0).toList then (none) else (columbariumlaw08_IdealClash.l2 k x7 x9 (((rd_T72 xz15002 x14).f1).toList == ((rd_T72 xz15002 x15).f1).toList) x14 (wrap64 (x15 + 1)) xz15000 xz15001 xz15002 xz15003 xz15004)) else (none)) else (none)) else (none)) else (none))) else (columbariumlaw08_IdealClash.l1 k x7 x9 x13 (wrap64 (x14 + 1)) xz15000 xz15001 xz15002 xz15003 xz15004)
def columbariumlaw08_IdealClash.l3 : Nat → Bool → Int → Bool → Int → ByteArray → Int → List (S72) → List (S74) → Bool → Option (Bool)
 | 0, _, _, _, _, _, _, _, _, _ => none
 | k + 1, x7, x9, x13, x16, xz15000, xz15001, xz15002, xz15003, xz15004 => if x16 < (xz15003.length : Int) then (columbariumlaw08_IdealClash.l4 k x7 x9 x13 x16 0 xz15000 xz15001 xz15002 xz15003 xz15004) else (if x7 = true then (if x9 = 0 then (if (xz15004 == x13) = true then (some (xz15001 == (wrap64 ((wrap64 (16 * (xz15002.length : Int))) + (wrap64 (40 * (xz15003.length : Int))))))) else (none)) else (none)) else (none))
def columbariumlaw08_IdealClash.l4 : Nat → Bool → Int → Bool → Int → Int → ByteArray → Int → List (S72) → List (S74) → Bool → Option (Bool)
 | 0, _, _, _, _, _, _, _, _, _, _ => none
 | k + 1, x7, x9, x13, x16, x17, xz15000, xz15001, xz15002, xz15003, xz15004 => if x17 < x16 then (if 0 ≤ x16 then (if x16 < (xz15003.length : Int) then (if 0 ≤ x17 then (if x17 < (xz15003.length : Int) then (if x13 = true then (if ((rd_T74 xz15003 x16).f0).toList = ((rd_T74 xz15003 x17).f0).toList then (if ((rd_T74 xz15003 x16).f1).toList = ((rd_T74 xz15003 x17).f1).toList then (none) else (columbariumlaw08_IdealClash.l4 k x7 x9 true x16 (wrap64 (x17 + 1)) xz15000 xz15001 xz15002 xz15003 xz15004)) else (columbariumlaw08_IdealClash.l4 k x7 x9 true x16 (wrap64 (x17 + 1)) xz15000 xz15001 xz15002 xz15003 xz15004)) else (if ((rd_T74 xz15003 x16).f0).toList = ((rd_T74 xz15003 x17).f0).toList then (if ((rd_T74 xz15003 x16).f1).toList = ((rd_T74 xz15003 x17).f1).toList then (none) else (columbariumlaw08_IdealClash.l4 k x7 x9 (((rd_T74 xz15003 x16).f2).toList == ((rd_T74 xz15003 x17).f2).toList) x16 (wrap64 (x17 + 1)) xz15000 xz15001 xz15002 xz15003 xz15004)) else (columbariumlaw08_IdealClash.l4 k x7 x9 false x16 (wrap64 (x17 + 1)) xz15000 xz15001 xz15002 xz15003 xz15004))) else (none)) else (none)) else (none)) else (none)) else (columbariumlaw08_IdealClash.l3 k x7 x9 x13 (wrap64 (x16 + 1)) xz15000 xz15001 xz15002 xz15003 xz15004)
end
def columbariumlaw08_IdealClash.f (k : Nat) (l0 : List Int) (a1 : Bool) (l2 : List (S46)) : Option (Bool) := (columbariumlaw08_awake.f k).bind fun tz1 => ((columbariumlaw08_Draws.f k l0 a1).bind fun btz2 => ((ideal_New.f btz2.1 btz2.2).bind fun btz4 => (columbariumlaw08_IdealClash.l0 k l2 tz1 btz4.2.2.2.2.2 0 btz4.1 btz4.2.1 btz4.2.2.1 btz4.2.2.2.1 btz4.2.2.2.2.1)))
def columbariumlaw08_IdealClash.T9 : Bool × List (List Nat × List Nat) := (true, [([], []), ([], []), ([1], [1]), ([2], [2]), ([3], [3]), ([4], [4]), ([5], [5]), ([0, 6, 3], [0, 6]), ([7], [7]), ([8], [8]), ([8], [8]), ([8], [8]), ([10, 7, 0, 1, 2, 3, 4, 5, 6, 7, 8, 9, 10], [10]), ([11, 12, 0, 1, 2, 3, 4, 5, 6, 7, 8, 9, 10, 11, 12], [11])])
def columbariumlaw08_IdealClash.B9 : List Nat := [0, 0, 2, 6, 14, 30, 62, 127, 255, 511, 511, 511, 2047, 8191]
theorem columbariumlaw08_IdealClash.tab9 : rtab .any (opsOf Try.f12 9) = columbariumlaw08_IdealClash.T9 := by kernel_rfl
theorem columbariumlaw08_IdealClash.bits9 : waitsOk columbariumlaw08_IdealClash.T9.2 columbariumlaw08_IdealClash.B9 = true := by kernel_rfl
def columbariumlaw08_IdealClash.T10 : Bool × List (List Nat × List Nat) := (true, [([], []), ([], []), ([1], [1]), ([2], [2]), ([], []), ([4], [4]), ([5, 3], [5]), ([0, 3, 6, 6], [0, 3, 6]), ([7], [7]), ([8], [8]), ([8], [8]), ([8], [8]), ([10, 7, 0, 1, 2, 3, 4, 5, 6, 7, 8, 9, 10], [10]), ([11, 12, 0, 1, 2, 3, 4, 5, 6, 7, 8, 9, 10, 11, 12], [11])])
def columbariumlaw08_IdealClash.B10 : List Nat := [0, 0, 2, 6, 0, 16, 62, 127, 255, 511, 511, 511, 2047, 8191]
theorem columbariumlaw08_IdealClash.tab10 : rtab .any (opsOf Try.f12 10) = columbariumlaw08_IdealClash.T10 := by kernel_rfl
theorem columbariumlaw08_IdealClash.bits10 : waitsOk columbariumlaw08_IdealClash.T10.2 columbariumlaw08_IdealClash.B10 = true := by kernel_rfl
def columbariumlaw08_IdealClash.T20 : Bool × List (List Nat × List Nat) := (true, [([], []), ([0], [0]), ([1], [1]), ([2, 1], [1, 2]), ([1], [1]), ([3, 4, 1], [1, 3, 4]), ([5, 1], [1, 5]), ([6, 1], [1, 6]), ([1], [1]), ([8, 1], [1, 8]), ([1], [1]), ([9, 10, 1], [1, 9, 10]), ([11, 1], [1, 11]), ([12, 1], [1, 12]), ([7, 13, 1], [1, 7, 13]), ([1, 14], [1, 14]), ([15, 1, 0, 1, 2, 3, 4, 5, 6, 7, 8, 9, 10, 11, 12, 13, 14, 15], [0, 15])])
def columbariumlaw08_IdealClash.B20 : List Nat := [0, 1, 3, 7, 3, 31, 63, 127, 3, 259, 3, 1795, 3843, 7939, 16383, 32767, 65535]
theorem columbariumlaw08_IdealClash.tab20 : rtab .any (opsOf Try.f12 20) = columbariumlaw08_IdealClash.T20 := by kernel_rfl
theorem columbariumlaw08_IdealClash.bits20 : waitsOk columbariumlaw08_IdealClash.T20.2 columbariumlaw08_IdealClash.B20 = true := by kernel_rfl
def columbariumlaw08_IdealClash.T21 : Bool × List (List Nat × List Nat) := (true, [([], []), ([0], [0]), ([], []), ([1, 2], [1, 2]), ([3], [3]), ([4], [4]), ([], []), ([6], [6]), ([], []), ([7, 8], [7, 8]), ([9], [9]), ([10], [10]), ([5, 11], [5, 11])])
def columbariumlaw08_IdealClash.B21 : List Nat := [0, 1, 0, 7, 15, 31, 0, 64, 0, 448, 960, 1984, 4095]
theorem columbariumlaw08_IdealClash.tab21 : rtab .any (opsOf Try.f12 21) = columbariumlaw08_IdealClash.T21 := by kernel_rfl
theorem columbariumlaw08_IdealClash.bits21 : waitsOk columbariumlaw08_IdealClash.T21.2 columbariumlaw08_IdealClash.B21 = true := by kernel_rfl
def columbariumlaw08_IdealClash.T29 : Bool × List (List Nat × List Nat) := (true, [([], []), ([0], [0]), ([], []), ([1, 2], [1, 2]), ([3], [3]), ([4], [4]), ([], []), ([6], [6]), ([], []), ([7, 8], [7, 8]), ([9], [9]), ([10], [10]), ([5, 11], [5, 11]), ([12, 0, 1, 2, 3, 4, 5, 6, 7, 8, 9, 10, 11, 12], [12])])
def columbariumlaw08_IdealClash.B29 : List Nat := [0, 1, 0, 7, 15, 31, 0, 64, 0, 448, 960, 1984, 4095, 8191]
theorem columbariumlaw08_IdealClash.tab29 : rtab .any (opsOf Try.f12 29) = columbariumlaw08_IdealClash.T29 := by kernel_rfl
theorem columbariumlaw08_IdealClash.bits29 : waitsOk columbariumlaw08_IdealClash.T29.2 columbariumlaw08_IdealClash.B29 = true := by kernel_rfl
def columbariumlaw08_IdealClash.T30 : Bool × List (List Nat × List Nat) := (true, [([], []), ([0], [0]), ([1], [1]), ([2, 1, 1], [1, 2]), ([3], [3]), ([4, 3], [3, 4]), ([3], [3]), ([5, 6, 3], [3, 5, 6]), ([7, 3], [3, 7]), ([8, 3], [3, 8]), ([3], [3]), ([10, 3], [3, 10]), ([3], [3]), ([11, 12, 3], [3, 11, 12]), ([13, 3], [3, 13]), ([14, 3], [3, 14]), ([9, 15, 3], [3, 9, 15]), ([3, 16, 1], [1, 3, 16]), ([1, 17], [1, 17]), ([18, 3, 0, 1, 2, 3, 4, 5, 6, 7, 8, 9, 10, 11, 12, 13, 14, 15, 16, 17, 18], [0, 18])])
def columbariumlaw08_IdealClash.B30 : List Nat := [0, 1, 3, 7, 15, 31, 15, 127, 255, 511, 15, 1039, 15, 7183, 15375, 31759, 65535, 131071, 262143, 524287]
theorem columbariumlaw08_IdealClash.tab30 : rtab .any (opsOf Try.f12 30) = columbariumlaw08_IdealClash.T30 := by kernel_rfl
theorem columbariumlaw08_IdealClash.bits30 : waitsOk columbariumlaw08_IdealClash.T30.2 columbariumlaw08_IdealClash.B30 = true := by kernel_rfl
def columbariumlaw08_IdealClash.T31 : Bool × List (List Nat × List Nat) := (true, [([], []), ([0], [0]), ([1], [1]), ([2, 1], [1, 2]), ([1], [1]), ([3, 4, 1], [1, 3, 4]), ([5, 1], [1, 5]), ([6, 1], [1, 6]), ([1], [1]), ([8, 1], [1, 8]), ([1], [1]), ([9, 10, 1], [1, 9, 10]), ([11, 1], [1, 11]), ([12, 1], [1, 12]), ([7, 13, 1], [1, 7, 13]), ([1, 14], [1, 14])])
def columbariumlaw08_IdealClash.B31 : List Nat := [0, 1, 3, 7, 3, 31, 63, 127, 3, 259, 3, 1795, 3843, 7939, 16383, 32767]
theorem columbariumlaw08_IdealClash.tab31 : rtab .any (opsOf Try.f12 31) = columbariumlaw08_IdealClash.T31 := by kernel_rfl
theorem columbariumlaw08_IdealClash.bits31 : waitsOk columbariumlaw08_IdealClash.T31.2 columbariumlaw08_IdealClash.B31 = true := by kernel_rfl
set_option maxHeartbeats 8000000 in
set_option maxRecDepth 100000 in
theorem columbariumlaw08_IdealClash.calls (k : Nat) (A0 : Option Addr) (c0 : Nat) (l0 : List Int) (a1 : Bool) (A2 : Option Addr) (c2 : Nat) (l2 : List (S46)) (r : Bool) (w : World) (hr0 : Kd.C (Kd.int .i64) w A0 l0.length l0) (hc0 : l0.length ≤ c0) (hr2 : Kd.C k46 w A2 l2.length l2) (hc2 : l2.length ≤ c2) (h : columbariumlaw08_IdealClash.f k l0 a1 l2 = some r) :
  Calls Try.prog 12 #[.slice A0 l0.length c0, .bool a1, .slice A2 l2.length c2] w fun e w' => e = .returned (.bool r) ∧ Below w.heap.size w w' := by
 have hu50 := Try.underlying50
 have hu46 := Try.underlying46
 have HR0 := am hr0
 have HC0 := am hc0
 clear hr0 hc0
 have HR2 := am hr2
 have HC2 := am hc2
 clear hr2 hc2
 have HB := am (Below.refl w.heap.size w)
 have H : ((columbariumlaw08_awake.f k).bind fun tz1 => ((columbariumlaw08_Draws.f k l0 a1).bind fun btz2 => ((ideal_New.f btz2.1 btz2.2).bind fun btz4 => (columbariumlaw08_IdealClash.l0 k l2 tz1 btz4.2.2.2.2.2 0 btz4.1 btz4.2.1 btz4.2.2.1 btz4.2.2.2.1 btz4.2.2.2.2.1)))) = some r := h
 clear h
 replace H := Option.bind_eq_some_iff.mp H
 obtain ⟨tz1, A40, H⟩ := H
 replace H : ((columbariumlaw08_Draws.f k l0 a1).bind fun btz2 => ((ideal_New.f btz2.1 btz2.2).bind fun btz4 => (columbariumlaw08_IdealClash.l0 k l2 tz1 btz4.2.2.2.2.2 0 btz4.1 btz4.2.1 btz4.2.2.1 btz4.2.2.2.1 btz4.2.2.2.2.1))) = some r := H
 have A4 := Aside0.mk A40
 clear A40
 replace H := Option.bind_eq_some_iff.mp H
 obtain ⟨⟨tz2, tz3⟩, A50, H⟩ := H
 replace H : ((ideal_New.f tz2 tz3).bind fun btz4 => (columbariumlaw08_IdealClash.l0 k l2 tz1 btz4.2.2.2.2.2 0 btz4.1 btz4.2.1 btz4.2.2.1 btz4.2.2.2.1 btz4.2.2.2.2.1)) = some r := H
 have A5 := Aside0.mk A50
 clear A50
 replace H := Option.bind_eq_some_iff.mp H
 obtain ⟨⟨tz4, tz5, tz6, tz9, tz12, tz13⟩, A60, H⟩ := H
 replace H : (columbariumlaw08_IdealClash.l0 k l2 tz1 tz13 0 tz4 tz5 tz6 tz9 tz12) = some r := H
 have A6 := Aside0.mk A60
 clear A60
 have H' := am H
 clear H
 go_enter Try.func12, Try.ntmps12
 go_wp2_with (first | ((with_reducible refine gate_callee (f := 28) rfl ?_); refine goesL_ (some 19) rfl rfl Try.func28 (by kernel_rfl) rfl #[] rfl (by (try simp only [List.map_toArray, List.map_cons, List.map_nil]); first | done | rfl | (simp only [List.length_drop, List.length_take]; rfl)) ?_; (with_reducible refine (columbariumlaw08_awake.calls k  tz1 _ A4.out).mono ?_); rintro e w7 ⟨rfl, hb⟩; refine ⟨_, rfl, ?_⟩; have n0_ := am (below_step (pb HB) hb); clear HB; have HB := n0_; clear n0_; (try clear hb); (try clear hb2); (try clear hk); (try clear hi)) | ((with_reducible refine gate_callee (f := 29) rfl ?_); refine goesL_ (some 23) rfl rfl Try.func29 (by kernel_rfl) rfl #[.slice A0 l0.length c0, .bool a1] rfl (by (try simp only [List.map_toArray, List.map_cons, List.map_nil]); first | done | rfl | (simp only [List.length_drop, List.length_take]; rfl)) ?_; (with_reducible refine (columbariumlaw08_Draws.calls k _ _ l0 a1 tz2 tz3 _ ?side1 ?side2 A5.out).mono ?_); (case side1 => repeat (first | exact (Kd.C_below HR0.out HB.out) | (with_reducible refine Kd.C_alloc ?_ _) | (with_reducible refine Kd.C_drewN ?_ _) | (with_reducible refine Kd.C_drew ?_))); (case side2 => exact HC0.out); rintro e w8 ⟨rfl, hb⟩; refine ⟨_, rfl, ?_⟩; have n0_ := am (below_step (pb HB) hb); clear HB; have HB := n0_; clear n0_; (try clear hb); (try clear hb2); (try clear hk); (try clear hi)) | ((with_reducible refine gate_callee (f := 30) rfl ?_); refine goesL_ (some 24) rfl rfl Try.func30 (by kernel_rfl) rfl #[.agg #[.string tz2, .int .i64 tz3]] rfl (by (try simp only [List.map_toArray, List.map_cons, List.map_nil]); first | done | rfl | (simp only [List.length_drop, List.length_take]; rfl)) ?_; (with_reducible refine (ideal_New.calls tz2 tz3 tz4 tz5 tz6 tz9 tz12 tz13 _ A6.out).mono ?_); rintro e w9 ⟨vz7, vz10, rfl, ho0, ho1, hb⟩; refine ⟨_, rfl, ?_⟩; have n0_ := am (Kd.R_lower ho0 (below_size (pb HB))); have n1_ := am (Kd.R_lower ho1 (below_size (pb HB))); have n2_ := am (below_step (pb HB) hb); clear HB; have HOz8 := n0_; have HOz11 := n1_; have HB := n2_; clear n0_ n1_ n2_; (try clear hb); (try clear hb2); (try clear hk); (try clear hi); (try clear ho0); (try clear ho1)) | ((with_reducible refine gate_dst (N := 8) rfl ?_); (try (refine gate_guard (by rfl) ?_; dsimp only)); refine box_event ?hg (N := 8) ?hd (cs := #[.string (⟨#[]⟩ : ByteArray), .int .i64 0, .slice none 0 0, .slice none 0 0, .bool false]) (t := 50) ?hr ?_; (case hd => rfl); (case hg => rfl); (case hr => first | (go_simp; done) | (go_simp; rfl)); intro gbz14 hg w10 hbox hb; have n0_ := am (Kd.R_below (pr HOz8) hb); have n1_ := am (Kd.R_below (pr HOz11) hb); have n2_ := am (below_step (pb HB) hb); have n3_ := am (hbox); have n4_ := am ((by rw [hg]; exact (below_size (pb HB)) : w.heap.size ≤ gbz14)); have n5_ := am ((by rw [hg]; exact (below_size (pb HB)) : w.heap.size ≤ gbz14)); clear HOz8; clear HOz11; clear HB; have HOz8 := n0_; have HOz11 := n1_; have HB := n2_; have BKz14 := n3_; have GWz14 := n4_; have GEz14 := n5_; clear n0_ n1_ n2_ n3_ n4_ n5_; clear hb hbox hg; have hcz11_0 : w10.cell? ⟨gbz14, 0, none⟩ = some (.string (⟨#[]⟩ : ByteArray)) := (blk_cell BKz14.out 0).trans rfl; have hcz11_1 : w10.cell? ⟨gbz14, 1, none⟩ = some (.int .i64 0) := (blk_cell BKz14.out 1).trans rfl; have hcz11_2 : w10.cell? ⟨gbz14, 2, none⟩ = some (.slice none 0 0) := (blk_cell BKz14.out 2).trans rfl; have hcz11_3 : w10.cell? ⟨gbz14, 3, none⟩ = some (.slice none 0 0) := (blk_cell BKz14.out 3).trans rfl; have hcz11_4 : w10.cell? ⟨gbz14, 4, none⟩ = some (.bool false) := (blk_cell BKz14.out 4).trans rfl; have hfz11_0 := blk_frozen BKz14.out 0; have hfz11_1 := blk_frozen BKz14.out 1; have hfz11_2 := blk_frozen BKz14.out 2; have hfz11_3 := blk_frozen BKz14.out 3; have hfz11_4 := blk_frozen BKz14.out 4; obtain ⟨Ao12, co12, eo12⟩ := Kd.R_slice HOz8.out; subst eo12; obtain ⟨Ao13, co13, eo13⟩ := Kd.R_slice HOz11.out; subst eo13))
 go_loopg [10] k (fun kq v10 w' => ∃ (x10_1 : Int) (xz15000_1 : ByteArray) (xz15001_1 : Int) (xz15002_1 : List (S72)) (xz15003_1 : List (S74)) (xz15004_1 : Bool) (uz15002 : Value) (uz15003 : Value), v10 = .int .i64 x10_1 ∧ Aside0 (columbariumlaw08_IdealClash.l0 kq l2 tz1 tz13 x10_1 xz15000_1 xz15001_1 xz15002_1 xz15003_1 xz15004_1 = some r) ∧ Aside0 (kq ≤ k) ∧ Aside0 (Kd.R k72 72 w' w.heap.size (fun _ => True) uz15002 xz15002_1) ∧ Aside0 (Kd.R k74 74 w' w.heap.size (fun _ => True) uz15003 xz15003_1) ∧ Aside0 (w'.heap[gbz14]? = some (.cells #[.string xz15000_1, .int .i64 xz15001_1, uz15002, uz15003, .bool xz15004_1] 50 (0, 0))) ∧ Aside0 (Below w.heap.size w w'))
 case atStart => exact ⟨(0), (tz4), (tz5), (tz6), (tz9), (tz12), (.slice Ao12 tz6.length co12), (.slice Ao13 tz9.length co13), (by first | rfl | (simp; done) | (simp [*]; done)), H', ⟨Nat.le_refl _⟩, ⟨by (with_reducible repeat (first | apply Kd.R_alloc | apply Kd.R_drewN | apply Kd.R_drew)); exact Kd.R_mono (rf5 (Kd.R_types HOz8.out BKz14.out (by decide)) (fun _ hk => hk.2)) (fun _ hk => trivial)⟩, ⟨by (with_reducible repeat (first | apply Kd.R_alloc | apply Kd.R_drewN | apply Kd.R_drew)); exact Kd.R_mono (rf5 (Kd.R_types HOz11.out BKz14.out (by decide)) (fun _ hk => hk.2)) (fun _ hk => trivial)⟩, ⟨by (with_reducible repeat (first | refine blk_drewN ?_ _ | refine blk_drew ?_ | refine blk_alloc ?_ _)); refine blk_put (cs := #[.string tz4, .int .i64 tz5, .slice Ao12 tz6.length co12, .slice Ao13 tz9.length co13, .bool false]) ?_ 4 _ rfl; (with_reducible repeat (first | refine blk_drewN ?_ _ | refine blk_drew ?_ | refine blk_alloc ?_ _)); refine blk_put (cs := #[.string tz4, .int .i64 tz5, .slice Ao12 tz6.length co12, .slice none 0 0, .bool false]) ?_ 3 _ rfl; (with_reducible repeat (first | refine blk_drewN ?_ _ | refine blk_drew ?_ | refine blk_alloc ?_ _)); refine blk_put (cs := #[.string tz4, .int .i64 tz5, .slice none 0 0, .slice none 0 0, .bool false]) ?_ 2 _ rfl; (with_reducible repeat (first | refine blk_drewN ?_ _ | refine blk_drew ?_ | refine blk_alloc ?_ _)); refine blk_put (cs := #[.string tz4, .int .i64 0, .slice none 0 0, .slice none 0 0, .bool false]) ?_ 1 _ rfl; (with_reducible repeat (first | refine blk_drewN ?_ _ | refine blk_drew ?_ | refine blk_alloc ?_ _)); refine blk_put (cs := #[.string (⟨#[]⟩ : ByteArray), .int .i64 0, .slice none 0 0, .slice none 0 0, .bool false]) ?_ 0 _ rfl; (with_reducible repeat (first | refine blk_drewN ?_ _ | refine blk_drew ?_ | refine blk_alloc ?_ _)); exact BKz14.out⟩, ⟨by repeat (first | (with_reducible first | exact HB.out | apply below_alloc | apply pw_below_drewN | apply below_drew1 | refine below_set ?_ GEz14.out) | exact HB.out)⟩⟩
 case round =>
  clear H'
  try clear c1
  try clear c2
  try clear p2
  try clear c3
  try clear c12
  try clear hcz11_0
  try clear hcz11_1
  try clear hcz11_2
  try clear hcz11_3
  try clear hcz11_4
  try clear hfz11_0
  try clear hfz11_1
  try clear hfz11_2
  try clear hfz11_3
  try clear hfz11_4
  obtain ⟨x10_1, xz15000_1, xz15001_1, xz15002_1, xz15003_1, xz15004_1, uz15002, uz15003, rfl, HA, HK1, HO_z15002, HO_z15003, BKz14, HB⟩ := hrel
  cases gk with
  | zero => exact absurd HA.out (by simp [columbariumlaw08_IdealClash.l0])
  | succ k1 =>
   have H := HA.out
   clear HA
   simp only [columbariumlaw08_IdealClash.l0] at H
   have HC14 := am H
   clear H
   go_upto_region 4 with (fail)
   go_cut [34] (fun v34 wc => ∃ (kq : Nat) (x34_13 : Bool), v34 = .bool x34_13 ∧ Aside0 (columbariumlaw08_IdealClash.j1 kq l2 tz1 tz13 x10_1 x34_13 xz15000_1 xz15001_1 xz15002_1 xz15003_1 xz15004_1 = some r) ∧ Aside0 (kq ≤ k1) ∧ Aside0 (Kd.R k72 72 wc w.heap.size (fun _ => True) uz15002 xz15002_1) ∧ Aside0 (Kd.R k74 74 wc w.heap.size (fun _ => True) uz15003 xz15003_1) ∧ Aside0 (wc.heap[gbz14]? = some (.cells #[.string xz15000_1, .int .i64 xz15001_1, uz15002, uz15003, .bool xz15004_1] 50 (0, 0))) ∧ Aside0 (Below w.heap.size w wc))
   case first =>
    have H := HC14.out
    clear HC14
    by_cases c15 : x10_1 < (l2.length : Int)
    rotate_left
    ·rw [if_neg c15] at H
     have c15b0 : decide (x10_1 < (l2.length : Int)) = false := decide_eq_false c15
     clear c15
     (first | rw [c15b0] | rw [c15b1] | (simp only [i64_w, i32_w]; rw [c15b0]) | skip)
     have H' := am H
     clear H
     go_wp2
     go_meet
     case rel => exact ⟨_, (false), (by first | rfl | (simp; done) | (simp [*]; done)), H', ⟨by have := HK1.out; first | omega | exact Nat.le_refl _⟩, ⟨by (with_reducible repeat (first | apply Kd.R_alloc | apply Kd.R_drewN | apply Kd.R_drew)); exact HO_z15002.out⟩, ⟨by (with_reducible repeat (first | apply Kd.R_alloc | apply Kd.R_drewN | apply Kd.R_drew)); exact HO_z15003.out⟩, ⟨by (with_reducible repeat (first | refine blk_drewN ?_ _ | refine blk_drew ?_ | refine blk_alloc ?_ _)); exact BKz14.out⟩, ⟨by repeat (first | (with_reducible first | exact HB.out | apply below_alloc | apply pw_below_drewN | apply below_drew1 | refine below_set ?_ GEz14.out) | exact HB.out)⟩⟩
    rw [if_pos c15] at H
    have c15b0 : decide (x10_1 < (l2.length : Int)) = true := decide_eq_true c15
    clear c15
    (first | rw [c15b0] | rw [c15b1] | (simp only [i64_w, i32_w]; rw [c15b0]) | skip)
    have H' := am H
    clear H
    go_wp2
    go_meet
    case rel => exact ⟨_, (decide (x10_1 < 15)), (by first | rfl | (simp; done) | (simp [*]; done)), H', ⟨by have := HK1.out; first | omega | exact Nat.le_refl _⟩, ⟨by (with_reducible repeat (first | apply Kd.R_alloc | apply Kd.R_drewN | apply Kd.R_drew)); exact HO_z15002.out⟩, ⟨by (with_reducible repeat (first | apply Kd.R_alloc | apply Kd.R_drewN | apply Kd.R_drew)); exact HO_z15003.out⟩, ⟨by (with_reducible repeat (first | refine blk_drewN ?_ _ | refine blk_drew ?_ | refine blk_alloc ?_ _)); exact BKz14.out⟩, ⟨by repeat (first | (with_reducible first | exact HB.out | apply below_alloc | apply pw_below_drewN | apply below_drew1 | refine below_set ?_ GEz14.out) | exact HB.out)⟩⟩
   case rest =>
    clear HC14
    try clear c1
    try clear c2
    try clear p2
    try clear c3
    try clear c12
    try clear c15
    try clear c15b0
    try clear c15b1
    try clear hcz11_0
    try clear hcz11_1
    try clear hcz11_2
    try clear hcz11_3
    try clear hcz11_4
    try clear hfz11_0
    try clear hfz11_1
    try clear hfz11_2
    try clear hfz11_3
    try clear hfz11_4
    try clear p2
    obtain ⟨kq, x34_13, rfl, HA, HJ13, HO_z15002, HO_z15003, BKz14, HB⟩ := hcut
    cases kq with
    | zero => exact absurd HA.out (by simp [columbariumlaw08_IdealClash.j1])
    | succ kj13 =>
     have H := HA.out
     clear HA
     simp only [columbariumlaw08_IdealClash.j1] at H
     by_cases c16 : x34_13 = true
     ·subst c16
      have H1 : (if 0 ≤ x10_1 then (if x10_1 < (l2.length : Int) then ((columbariumlaw08_pick.f ((rd_T46 l2 x10_1).f0) 2).bind fun tz17 => (if tz17 = 0 then ((columbariumlaw08_pick.f ((rd_T46 l2 x10_1).f1) 6).bind fun tz18 => ((ideal_Label.f kj13 xz15000_1 xz15001_1 xz15002_1 xz15003_1 xz15004_1 (strOfNums (([(tz18) % 256] : List Int)))).bind fun btz22 => (if btz22.2.2.2.2.2.2 = 0 then (columbariumlaw08_IdealClash.l0 kj13 l2 tz1 tz13 (wrap64 (x10_1 + 1)) btz22.2.1 btz22.2.2.1 btz22.2.2.2.1 btz22.2.2.2.2.1 btz22.2.2.2.2.2.1) else (none)))) else ((columbariumlaw08_Label.f ((rd_T46 l2 x10_1).f1)).bind fun tz33 => ((columbariumlaw08_Text.f ((rd_T46 l2 x10_1).f2)).bind fun tz34 => ((ideal_Seal.f kj13 xz15000_1 xz15001_1 xz15002_1 xz15003_1 xz15004_1 tz33 tz34).bind fun btz35 => (if btz35.2.2.2.2.2.2 = 0 then (columbariumlaw08_IdealClash.l0 kj13 l2 tz1 tz13 (wrap64 (x10_1 + 1)) btz35.2.1 btz35.2.2.1 btz35.2.2.2.1 btz35.2.2.2.2.1 btz35.2.2.2.2.2.1) else (none))))))) else (none)) else (none)) = some r := by rw [if_pos rfl] at H; exact H
      clear H
      have H := H1
      clear H1
      by_cases c17 : 0 ≤ x10_1
      rotate_left
      ·rw [if_neg c17] at H
       exact absurd H (by simp)
      rw [if_pos c17] at H
      have c17b0 : decide (0 ≤ x10_1) = true := decide_eq_true c17
      clear c17
      by_cases c18 : x10_1 < (l2.length : Int)
      rotate_left
      ·rw [if_neg c18] at H
       exact absurd H (by simp)
      rw [if_pos c18] at H
      have c18b0 : decide (x10_1 < (l2.length : Int)) = true := decide_eq_true c18
      clear c18
      replace H := Option.bind_eq_some_iff.mp H
      obtain ⟨tz17, A190, H⟩ := H
      replace H : (if tz17 = 0 then ((columbariumlaw08_pick.f ((rd_T46 l2 x10_1).f1) 6).bind fun tz18 => ((ideal_Label.f kj13 xz15000_1 xz15001_1 xz15002_1 xz15003_1 xz15004_1 (strOfNums (([(tz18) % 256] : List Int)))).bind fun btz22 => (if btz22.2.2.2.2.2.2 = 0 then (columbariumlaw08_IdealClash.l0 kj13 l2 tz1 tz13 (wrap64 (x10_1 + 1)) btz22.2.1 btz22.2.2.1 btz22.2.2.2.1 btz22.2.2.2.2.1 btz22.2.2.2.2.2.1) else (none)))) else ((columbariumlaw08_Label.f ((rd_T46 l2 x10_1).f1)).bind fun tz33 => ((columbariumlaw08_Text.f ((rd_T46 l2 x10_1).f2)).bind fun tz34 => ((ideal_Seal.f kj13 xz15000_1 xz15001_1 xz15002_1 xz15003_1 xz15004_1 tz33 tz34).bind fun btz35 => (if btz35.2.2.2.2.2.2 = 0 then (columbariumlaw08_IdealClash.l0 kj13 l2 tz1 tz13 (wrap64 (x10_1 + 1)) btz35.2.1 btz35.2.2.1 btz35.2.2.2.1 btz35.2.2.2.2.1 btz35.2.2.2.2.2.1) else (none)))))) = some r := H
      have A19 := Aside0.mk A190
      clear A190
      by_cases c20 : tz17 = 0
      rotate_left
      ·rw [if_neg c20] at H
       have c20b0 : (tz17 == 0) = false := beq_eq_false_iff_ne.mpr c20
       have c20b1 : (tz17 != 0) = true := bne_iff_ne.mpr c20
       replace H := Option.bind_eq_some_iff.mp H
       obtain ⟨tz33, A420, H⟩ := H
       replace H : ((columbariumlaw08_Text.f ((rd_T46 l2 x10_1).f2)).bind fun tz34 => ((ideal_Seal.f kj13 xz15000_1 xz15001_1 xz15002_1 xz15003_1 xz15004_1 tz33 tz34).bind fun btz35 => (if btz35.2.2.2.2.2.2 = 0 then (columbariumlaw08_IdealClash.l0 kj13 l2 tz1 tz13 (wrap64 (x10_1 + 1)) btz35.2.1 btz35.2.2.1 btz35.2.2.2.1 btz35.2.2.2.2.1 btz35.2.2.2.2.2.1) else (none)))) = some r := H
       have A42 := Aside0.mk A420
       clear A420
       replace H := Option.bind_eq_some_iff.mp H
       obtain ⟨tz34, A430, H⟩ := H
       replace H : ((ideal_Seal.f kj13 xz15000_1 xz15001_1 xz15002_1 xz15003_1 xz15004_1 tz33 tz34).bind fun btz35 => (if btz35.2.2.2.2.2.2 = 0 then (columbariumlaw08_IdealClash.l0 kj13 l2 tz1 tz13 (wrap64 (x10_1 + 1)) btz35.2.1 btz35.2.2.1 btz35.2.2.2.1 btz35.2.2.2.2.1 btz35.2.2.2.2.2.1) else (none))) = some r := H
       have A43 := Aside0.mk A430
       clear A430
       replace H := Option.bind_eq_some_iff.mp H
       obtain ⟨⟨tz35, tz36, tz37, tz38, tz41, tz44, tz45⟩, A440, H⟩ := H
       replace H : (if tz45 = 0 then (columbariumlaw08_IdealClash.l0 kj13 l2 tz1 tz13 (wrap64 (x10_1 + 1)) tz36 tz37 tz38 tz41 tz44) else (none)) = some r := H
       have A44 := Aside0.mk A440
       clear A440
       by_cases c45 : tz45 = 0
       rotate_left
       ·rw [if_neg c45] at H
        exact absurd H (by simp)
       rw [if_pos c45] at H
       have c45b0 : (tz45 == 0) = true := beq_iff_eq.mpr c45
       have c45b1 : (tz45 != 0) = false := bne_eq_false_iff_eq.mpr c45
       clear c45
       have H' := am H
       clear H
       have pz15 : 0 ≤ (x10_1 : Int) := of_decide_eq_true (by first | (with_reducible assumption) | assumption)
       have qz15 : x10_1 < (l2.length : Int) := of_decide_eq_true (by first | (with_reducible assumption) | assumption)
       obtain ⟨adz15, ez15, hxz15_0, hxz15_1, hxz15_2⟩ := at_T46 HR2.out x10_1 pz15 qz15
       cases ez15
       replace hxz15_0 := (HB.out.cell (World.block_lt_of_cell? w _ hxz15_0)).trans hxz15_0
       replace hxz15_1 := (HB.out.cell (World.block_lt_of_cell? w _ hxz15_1)).trans hxz15_1
       replace hxz15_2 := (HB.out.cell (World.block_lt_of_cell? w _ hxz15_2)).trans hxz15_2
       replace pz15 := eq_true pz15
       replace qz15 := eq_true qz15
       try go_wp2_with (first | ((with_reducible refine gate_dst (N := 11) rfl ?_); (try (refine gate_guard (by rfl) ?_; dsimp only)); refine box_event ?hg (N := 11) ?hd (cs := #[.int .i64 0, .int .i64 0, .int .i64 0]) (t := 46) ?hr ?_; (case hd => rfl); (case hg => rfl); (case hr => first | (go_simp; done) | (go_simp; rfl)); intro gbz16 hg w46 hbox hb; have n0_ := am (Kd.R_below (pr HO_z15002) hb); have n1_ := am (Kd.R_below (pr HO_z15003) hb); have n2_ := am (blk_below (pk BKz14) hb); have n3_ := am (below_step (by repeat (first | (with_reducible first | exact HB.out | apply below_alloc | apply pw_below_drewN | apply below_drew1 | refine below_set ?_ GEz14.out) | exact HB.out)) hb); have n4_ := am (hbox); have n5_ := am ((by rw [hg]; exact (below_size (by repeat (first | (with_reducible first | exact HB.out | apply below_alloc | apply pw_below_drewN | apply below_drew1 | refine below_set ?_ GEz14.out) | exact HB.out))) : w.heap.size ≤ gbz16)); have n6_ := am ((by rw [hg]; exact (below_size (by repeat (first | (with_reducible first | exact HB.out | apply below_alloc | apply pw_below_drewN | apply below_drew1 | refine below_set ?_ GEz14.out) | exact HB.out))) : w.heap.size ≤ gbz16)); have n7_ := am ((by rw [hg]; exact Nat.ne_of_lt (blk_lt (g := gbz14) (o := .cells #[.string xz15000_1, .int .i64 xz15001_1, uz15002, uz15003, .bool xz15004_1] 50 (0, 0)) (pk BKz14)) : gbz14 ≠ gbz16)); have n8_ := am ((by rw [hg]; exact Nat.ne_of_gt (blk_lt (g := gbz14) (o := .cells #[.string xz15000_1, .int .i64 xz15001_1, uz15002, uz15003, .bool xz15004_1] 50 (0, 0)) (pk BKz14)) : gbz16 ≠ gbz14)); clear HO_z15002; clear HO_z15003; clear BKz14; clear HB; have HO_z15002 := n0_; have HO_z15003 := n1_; have BKz14 := n2_; have HB := n3_; have BKz16 := n4_; have GWz16 := n5_; have GEz16 := n6_; have NBz14_z16 := n7_; have NBz16_z14 := n8_; clear n0_ n1_ n2_ n3_ n4_ n5_ n6_ n7_ n8_; clear hb hbox hg; have hnb47 := NBz16_z14.out; have hnc47 := NBz14_z16.out; have hcz48_0 : w46.cell? ⟨gbz16, 0, none⟩ = some (.int .i64 0) := (blk_cell BKz16.out 0).trans rfl; have hcz48_1 : w46.cell? ⟨gbz16, 1, none⟩ = some (.int .i64 0) := (blk_cell BKz16.out 1).trans rfl; have hcz48_2 : w46.cell? ⟨gbz16, 2, none⟩ = some (.int .i64 0) := (blk_cell BKz16.out 2).trans rfl; have hfz48_0 := blk_frozen BKz16.out 0; have hfz48_1 := blk_frozen BKz16.out 1; have hfz48_2 := blk_frozen BKz16.out 2) | ((with_reducible refine gate_callee (f := 34) rfl ?_); refine goesL_ (some 43) rfl rfl Try.func34 (by kernel_rfl) rfl #[.int .i64 ((rd_T46 l2 x10_1).f0), .int .i64 2] rfl (by (try simp only [List.map_toArray, List.map_cons, List.map_nil]); first | done | rfl | (simp only [List.length_drop, List.length_take]; rfl)) ?_; (with_reducible refine (columbariumlaw08_pick.calls ((rd_T46 l2 x10_1).f0) 2 tz17 _ A19.out).mono ?_); rintro e w' ⟨rfl, ⟨nd, rfl⟩⟩; refine ⟨_, rfl, ?_⟩))
       have n0_ : Aside0 (Kd.R k72 72 (((w46.setCell ⟨gbz16, 0, none⟩ (.int .i64 ((rd_T46 l2 x10_1).f0))).setCell ⟨gbz16, 1, none⟩ (.int .i64 ((rd_T46 l2 x10_1).f1))).setCell ⟨gbz16, 2, none⟩ (.int .i64 ((rd_T46 l2 x10_1).f2))) w.heap.size (fun _ => True) uz15002 xz15002_1) := ⟨by (with_reducible repeat (first | apply Kd.R_alloc | apply Kd.R_drewN | apply Kd.R_drew)); exact Kd.R_mono (rf3 (Kd.R_types HO_z15002.out BKz16.out (by decide)) (fun _ hk => hk.2)) (fun _ hk => trivial)⟩
       have n1_ : Aside0 (Kd.R k74 74 (((w46.setCell ⟨gbz16, 0, none⟩ (.int .i64 ((rd_T46 l2 x10_1).f0))).setCell ⟨gbz16, 1, none⟩ (.int .i64 ((rd_T46 l2 x10_1).f1))).setCell ⟨gbz16, 2, none⟩ (.int .i64 ((rd_T46 l2 x10_1).f2))) w.heap.size (fun _ => True) uz15003 xz15003_1) := ⟨by (with_reducible repeat (first | apply Kd.R_alloc | apply Kd.R_drewN | apply Kd.R_drew)); exact Kd.R_mono (rf3 (Kd.R_types HO_z15003.out BKz16.out (by decide)) (fun _ hk => hk.2)) (fun _ hk => trivial)⟩
       have n2_ : Aside0 ((((w46.setCell ⟨gbz16, 0, none⟩ (.int .i64 ((rd_T46 l2 x10_1).f0))).setCell ⟨gbz16, 1, none⟩ (.int .i64 ((rd_T46 l2 x10_1).f1))).setCell ⟨gbz16, 2, none⟩ (.int .i64 ((rd_T46 l2 x10_1).f2))).heap[gbz14]? = some (.cells #[.string xz15000_1, .int .i64 xz15001_1, uz15002, uz15003, .bool xz15004_1] 50 (0, 0))) := ⟨by (with_reducible repeat (first | refine blk_drewN ?_ _ | refine blk_drew ?_ | refine blk_alloc ?_ _)); refine blk_far ?_ NBz14_z16.out _; (with_reducible repeat (first | refine blk_drewN ?_ _ | refine blk_drew ?_ | refine blk_alloc ?_ _)); refine blk_far ?_ NBz14_z16.out _; (with_reducible repeat (first | refine blk_drewN ?_ _ | refine blk_drew ?_ | refine blk_alloc ?_ _)); refine blk_far ?_ NBz14_z16.out _; (with_reducible repeat (first | refine blk_drewN ?_ _ | refine blk_drew ?_ | refine blk_alloc ?_ _)); exact BKz14.out⟩
       have n3_ : Aside0 ((((w46.setCell ⟨gbz16, 0, none⟩ (.int .i64 ((rd_T46 l2 x10_1).f0))).setCell ⟨gbz16, 1, none⟩ (.int .i64 ((rd_T46 l2 x10_1).f1))).setCell ⟨gbz16, 2, none⟩ (.int .i64 ((rd_T46 l2 x10_1).f2))).heap[gbz16]? = some (.cells #[.int .i64 ((rd_T46 l2 x10_1).f0), .int .i64 ((rd_T46 l2 x10_1).f1), .int .i64 ((rd_T46 l2 x10_1).f2)] 46 (0, 0))) := ⟨by (with_reducible repeat (first | refine blk_drewN ?_ _ | refine blk_drew ?_ | refine blk_alloc ?_ _)); refine blk_put (cs := #[.int .i64 ((rd_T46 l2 x10_1).f0), .int .i64 ((rd_T46 l2 x10_1).f1), .int .i64 0]) ?_ 2 _ rfl; (with_reducible repeat (first | refine blk_drewN ?_ _ | refine blk_drew ?_ | refine blk_alloc ?_ _)); refine blk_put (cs := #[.int .i64 ((rd_T46 l2 x10_1).f0), .int .i64 0, .int .i64 0]) ?_ 1 _ rfl; (with_reducible repeat (first | refine blk_drewN ?_ _ | refine blk_drew ?_ | refine blk_alloc ?_ _)); refine blk_put (cs := #[.int .i64 0, .int .i64 0, .int .i64 0]) ?_ 0 _ rfl; (with_reducible repeat (first | refine blk_drewN ?_ _ | refine blk_drew ?_ | refine blk_alloc ?_ _)); exact BKz16.out⟩
       have n4_ : Aside0 (Below w.heap.size w (((w46.setCell ⟨gbz16, 0, none⟩ (.int .i64 ((rd_T46 l2 x10_1).f0))).setCell ⟨gbz16, 1, none⟩ (.int .i64 ((rd_T46 l2 x10_1).f1))).setCell ⟨gbz16, 2, none⟩ (.int .i64 ((rd_T46 l2 x10_1).f2)))) := ⟨by repeat (first | (with_reducible first | exact HB.out | apply below_alloc | apply pw_below_drewN | apply below_drew1 | refine below_set ?_ GEz14.out | refine below_set ?_ GEz16.out) | exact HB.out)⟩
       (try clear HO_z15002); (try clear HO_z15003); (try clear BKz14); (try clear BKz16); (try clear HB)
       generalize (((w46.setCell ⟨gbz16, 0, none⟩ (.int .i64 ((rd_T46 l2 x10_1).f0))).setCell ⟨gbz16, 1, none⟩ (.int .i64 ((rd_T46 l2 x10_1).f1))).setCell ⟨gbz16, 2, none⟩ (.int .i64 ((rd_T46 l2 x10_1).f2))) = w49 at n0_ n1_ n2_ n3_ n4_ ⊢
       have HO_z15002 := n0_; have HO_z15003 := n1_; have BKz14 := n2_; have BKz16 := n3_; have HB := n4_; clear n0_ n1_ n2_ n3_ n4_
       (try (rw [drewN_self w49]; generalize hq_ : World.drewN w49 _ = w49; have n0_ : Aside0 (Kd.R k72 72 w49 w.heap.size (fun _ => True) uz15002 xz15002_1) := ⟨by rw [← hq_]; exact (pr HO_z15002)⟩; have n1_ : Aside0 (Kd.R k74 74 w49 w.heap.size (fun _ => True) uz15003 xz15003_1) := ⟨by rw [← hq_]; exact (pr HO_z15003)⟩; have n2_ : Aside0 (w49.heap[gbz14]? = some (.cells #[.string xz15000_1, .int .i64 xz15001_1, uz15002, uz15003, .bool xz15004_1] 50 (0, 0))) := ⟨by rw [← hq_]; exact (pk BKz14)⟩; have n3_ : Aside0 (w49.heap[gbz16]? = some (.cells #[.int .i64 ((rd_T46 l2 x10_1).f0), .int .i64 ((rd_T46 l2 x10_1).f1), .int .i64 ((rd_T46 l2 x10_1).f2)] 46 (0, 0))) := ⟨by rw [← hq_]; exact (pk BKz16)⟩; have n4_ : Aside0 (Below w.heap.size w w49) := ⟨by rw [← hq_]; exact (by repeat (first | (with_reducible first | exact HB.out | apply below_alloc | apply pw_below_drewN | apply below_drew1 | refine below_set ?_ GEz14.out | refine below_set ?_ GEz16.out) | exact HB.out))⟩; clear HO_z15002 HO_z15003 BKz14 BKz16 HB hq_; have HO_z15002 := n0_; have HO_z15003 := n1_; have BKz14 := n2_; have BKz16 := n3_; have HB := n4_; clear n0_ n1_ n2_ n3_ n4_))
       have n0_ := am (Kd.R_drew HO_z15002.out)
       have n1_ := am (Kd.R_drew HO_z15003.out)
       have n2_ := am (blk_drew BKz14.out)
       have n3_ := am (blk_drew BKz16.out)
       have n4_ := am (below_drew1 HB.out)
       clear HO_z15002 HO_z15003 BKz14 BKz16 HB; have HO_z15002 := n0_; have HO_z15003 := n1_; have BKz14 := n2_; have BKz16 := n3_; have HB := n4_; clear n0_ n1_ n2_ n3_ n4_
       refine start_ (n := 14) (S := fun w' => w'.cell? ⟨gbz14, 0, none⟩ = some (.string xz15000_1) ∧ w'.cell? ⟨gbz14, 1, none⟩ = some (.int .i64 xz15001_1) ∧ w'.cell? ⟨gbz14, 2, none⟩ = some (uz15002) ∧ w'.cell? ⟨gbz14, 3, none⟩ = some (uz15003) ∧ w'.cell? ⟨gbz14, 4, none⟩ = some (.bool xz15004_1) ∧ w'.cell? ⟨gbz16, 0, none⟩ = some (.int .i64 ((rd_T46 l2 x10_1).f0)) ∧ w'.cell? ⟨gbz16, 1, none⟩ = some (.int .i64 ((rd_T46 l2 x10_1).f1)) ∧ w'.cell? ⟨gbz16, 2, none⟩ = some (.int .i64 ((rd_T46 l2 x10_1).f2))) (ds := [12]) #[false, false, false, false, false, false, false, false, false, false, false, false, false, false] (by kernel_rfl) rfl rfl ⟨(blk_cell BKz14.out 0).trans rfl, (blk_cell BKz14.out 1).trans rfl, (blk_cell BKz14.out 2).trans rfl, (blk_cell BKz14.out 3).trans rfl, (blk_cell BKz14.out 4).trans rfl, (blk_cell BKz16.out 0).trans rfl, (blk_cell BKz16.out 1).trans rfl, (blk_cell BKz16.out 2).trans rfl⟩ (fun hHeld => ?_); refine with_tabW columbariumlaw08_IdealClash.tab10 columbariumlaw08_IdealClash.bits10 (fun HT_ HW_ => ?_)
       generalize w49.drew = w50 at HO_z15002 HO_z15003 BKz14 BKz16 HB hHeld ⊢
       refine pu_ 1 (some 59) HT_ rfl rfl (by kernel_rfl) (fun _ _ _ h => h) (.inl ⟨by rfl, by intro w'; go_simp; with_reducible rfl⟩) (by simp only [Act.put, sa_, s0_, s1_, i64_w, i32_w]; rfl) ?_
       refine pu_ 4 (some 62) HT_ rfl rfl (by kernel_rfl) (fun _ _ _ h => h) (.inl ⟨by rfl, by intro w'; go_simp; with_reducible rfl⟩) (by simp only [Act.put, sa_, s0_, s1_, i64_w, i32_w]; rfl) ?_
       refine tk_ 0 (some 58) HT_ HW_ rfl rfl (by kernel_rfl) (fun _ _ _ h => h) (.inl ⟨by rfl, by rintro w' ⟨s0, s1, s2, s3, s4, s5, s6, s7⟩; go_simp; with_reducible rfl⟩) hHeld (by simp only [Act.put, sa_, s0_, s1_, i64_w, i32_w]; rfl) ?_
       refine tk_ 2 (some 60) HT_ HW_ rfl rfl (by kernel_rfl) (fun _ _ _ h => h) (.inl ⟨by rfl, by rintro w' ⟨s0, s1, s2, s3, s4, s5, s6, s7⟩; go_simp; with_reducible rfl⟩) hHeld (by simp only [Act.put, sa_, s0_, s1_, i64_w, i32_w]; rfl) ?_
       refine tk_ 5 (some 63) HT_ HW_ rfl rfl (by kernel_rfl) (fun _ _ _ h => h) (.inl ⟨by rfl, by rintro w' ⟨s0, s1, s2, s3, s4, s5, s6, s7⟩; go_simp; with_reducible rfl⟩) hHeld (by simp only [Act.put, sa_, s0_, s1_, i64_w, i32_w]; rfl) ?_
       refine on_ 3 (some 61) HT_ rfl rfl (by kernel_rfl) (by decide) (fun K hK => ?_)
       refine goes_ Try.func39 (by kernel_rfl) rfl #[.int .i64 ((rd_T46 l2 x10_1).f1)] (by rfl) rfl rfl (by (try simp only [List.map_toArray, List.map_cons, List.map_nil]); first | done | rfl | (simp only [List.length_drop, List.length_take]; rfl)) ?_
       with_reducible refine (columbariumlaw08_Label.calls ((rd_T46 l2 x10_1).f1) tz33 _ A42.out).mono ?_
       rintro e w51 ⟨rfl, hb⟩
       refine ⟨_, rfl, ?_⟩
       have n0_ := am (Kd.R_below (pr HO_z15002) hb)
       have n1_ := am (Kd.R_below (pr HO_z15003) hb)
       have n2_ := am (blk_below (pk BKz14) hb)
       have n3_ := am (blk_below (pk BKz16) hb)
       have n4_ := am (below_step (by repeat (first | (with_reducible first | exact HB.out | apply below_alloc | apply pw_below_drewN | apply below_drew1 | refine below_set ?_ GEz14.out | refine below_set ?_ GEz16.out) | exact HB.out)) hb)
       clear HO_z15002 HO_z15003 BKz14 BKz16 HB; have HO_z15002 := n0_; have HO_z15003 := n1_; have BKz14 := n2_; have BKz16 := n3_; have HB := n4_; clear n0_ n1_ n2_ n3_ n4_; (try clear hb); (try clear hb2); (try clear hk); (try clear hi)
       refine hK.out _ _ ⟨(blk_cell BKz14.out 0).trans rfl, (blk_cell BKz14.out 1).trans rfl, (blk_cell BKz14.out 2).trans rfl, (blk_cell BKz14.out 3).trans rfl, (blk_cell BKz14.out 4).trans rfl, (blk_cell BKz16.out 0).trans rfl, (blk_cell BKz16.out 1).trans rfl, (blk_cell BKz16.out 2).trans rfl⟩ (fun hHeld => ?_)
       clear hK K
       refine norm_ (by show Act.put _ (some 61) _ = _; simp only [Act.put, sa_, s0_, s1_, i64_w, i32_w]; rfl) ?_
       refine on_ 6 (some 64) HT_ rfl rfl (by kernel_rfl) (by decide) (fun K hK => ?_)
       refine goes_ Try.func40 (by kernel_rfl) rfl #[.int .i64 ((rd_T46 l2 x10_1).f2)] (by rfl) rfl rfl (by (try simp only [List.map_toArray, List.map_cons, List.map_nil]); first | done | rfl | (simp only [List.length_drop, List.length_take]; rfl)) ?_
       with_reducible refine (columbariumlaw08_Text.calls ((rd_T46 l2 x10_1).f2) tz34 _ A43.out).mono ?_
       rintro e w52 ⟨rfl, hb⟩
       refine ⟨_, rfl, ?_⟩
       have n0_ := am (Kd.R_below (pr HO_z15002) hb)
       have n1_ := am (Kd.R_below (pr HO_z15003) hb)
       have n2_ := am (blk_below (pk BKz14) hb)
       have n3_ := am (blk_below (pk BKz16) hb)
       have n4_ := am (below_step (by repeat (first | (with_reducible first | exact HB.out | apply below_alloc | apply pw_below_drewN | apply below_drew1 | refine below_set ?_ GEz14.out | refine below_set ?_ GEz16.out) | exact HB.out)) hb)
       clear HO_z15002 HO_z15003 BKz14 BKz16 HB; have HO_z15002 := n0_; have HO_z15003 := n1_; have BKz14 := n2_; have BKz16 := n3_; have HB := n4_; clear n0_ n1_ n2_ n3_ n4_; (try clear hb); (try clear hb2); (try clear hk); (try clear hi)
       obtain ⟨Ao53, co53, eo53⟩ := Kd.R_slice HO_z15002.out
       (first | subst eo53 | (injection eo53 with f1_ f2_ f3_; have f4_ := f1_.symm; have f5_ := f3_.symm; clear f1_ f2_ f3_; subst f4_; subst f5_))
       obtain ⟨Ao54, co54, eo54⟩ := Kd.R_slice HO_z15003.out
       (first | subst eo54 | (injection eo54 with f1_ f2_ f3_; have f4_ := f1_.symm; have f5_ := f3_.symm; clear f1_ f2_ f3_; subst f4_; subst f5_))
       refine hK.out _ _ ⟨(blk_cell BKz14.out 0).trans rfl, (blk_cell BKz14.out 1).trans rfl, (blk_cell BKz14.out 2).trans rfl, (blk_cell BKz14.out 3).trans rfl, (blk_cell BKz14.out 4).trans rfl, (blk_cell BKz16.out 0).trans rfl, (blk_cell BKz16.out 1).trans rfl, (blk_cell BKz16.out 2).trans rfl⟩ (fun hHeld => ?_)
       clear hK K
       refine norm_ (by show Act.put _ (some 64) _ = _; simp only [Act.put, sa_, s0_, s1_, i64_w, i32_w]; rfl) ?_
       refine on_ 7 (some 65) HT_ rfl rfl (by kernel_rfl) (by decide) (fun K hK => ?_)
       refine goes_ Try.func41 (by kernel_rfl) rfl #[.agg #[.string xz15000_1, .int .i64 xz15001_1, .slice Ao53 xz15002_1.length co53, .slice Ao54 xz15003_1.length co54, .bool xz15004_1], .string tz33, .string tz34] (by rfl) rfl rfl (by (try simp only [List.map_toArray, List.map_cons, List.map_nil]); first | done | rfl | (simp only [List.length_drop, List.length_take]; rfl)) ?_
       with_reducible refine (ideal_Seal.calls kj13 xz15000_1 xz15001_1 _ _ xz15002_1 _ _ xz15003_1 xz15004_1 tz33 tz34 tz35 tz36 tz37 tz38 tz41 tz44 tz45 _ ?side1 ?side2 ?side3 ?side4 A44.out).mono ?_
       (case side1 => repeat (first | exact (Kd.R_reads' HO_z15002.out).2.2 | (with_reducible refine Kd.C_alloc ?_ _) | (with_reducible refine Kd.C_drewN ?_ _) | (with_reducible refine Kd.C_drew ?_)))
       (case side2 => exact (Kd.R_reads' HO_z15002.out).2.1)
       (case side3 => repeat (first | exact (Kd.R_reads' HO_z15003.out).2.2 | (with_reducible refine Kd.C_alloc ?_ _) | (with_reducible refine Kd.C_drewN ?_ _) | (with_reducible refine Kd.C_drew ?_)))
       (case side4 => exact (Kd.R_reads' HO_z15003.out).2.1)
       rintro e w55 ⟨vz39, vz42, rfl, ho0, ho1, hb⟩
       refine ⟨_, rfl, ?_⟩
       have n0_ := am (Kd.R_elder' (pr HO_z15002) (Kd.R_base ho0) hb)
       have n1_ := am (Kd.R_elder' (pr HO_z15003) (Kd.R_base ho1) hb)
       have n2_ := am (Kd.R_lower (Kd.R_new' ho0 (Kd.R_lt (pr HO_z15002))) (below_size (by repeat (first | (with_reducible first | exact HB.out | apply below_alloc | apply pw_below_drewN | apply below_drew1 | refine below_set ?_ GEz14.out | refine below_set ?_ GEz16.out) | exact HB.out))))
       have n3_ := am (Kd.R_lower (Kd.R_new' ho1 (Kd.R_lt (pr HO_z15003))) (below_size (by repeat (first | (with_reducible first | exact HB.out | apply below_alloc | apply pw_below_drewN | apply below_drew1 | refine below_set ?_ GEz14.out | refine below_set ?_ GEz16.out) | exact HB.out))))
       have n4_ := am (blk_below (pk BKz14) hb)
       have n5_ := am (blk_below (pk BKz16) hb)
       have n6_ := am (below_step (by repeat (first | (with_reducible first | exact HB.out | apply below_alloc | apply pw_below_drewN | apply below_drew1 | refine below_set ?_ GEz14.out | refine below_set ?_ GEz16.out) | exact HB.out)) hb)
       clear HO_z15002 HO_z15003 BKz14 BKz16 HB; have HO_z15002 := n0_; have HO_z15003 := n1_; have HOz40 := n2_; have HOz43 := n3_; have BKz14 := n4_; have BKz16 := n5_; have HB := n6_; clear n0_ n1_ n2_ n3_ n4_ n5_ n6_; (try clear hb); (try clear hb2); (try clear hk); (try clear hi); (try clear ho0); (try clear ho1)
       obtain ⟨Ao58, co58, eo58⟩ := Kd.R_slice HOz40.out
       (first | subst eo58 | (injection eo58 with f1_ f2_ f3_; have f4_ := f1_.symm; have f5_ := f3_.symm; clear f1_ f2_ f3_; subst f4_; subst f5_))
       obtain ⟨Ao60, co60, eo60⟩ := Kd.R_slice HOz43.out
       (first | subst eo60 | (injection eo60 with f1_ f2_ f3_; have f4_ := f1_.symm; have f5_ := f3_.symm; clear f1_ f2_ f3_; subst f4_; subst f5_))
       refine hK.out _ _ ⟨(blk_cell BKz14.out 0).trans rfl, (blk_cell BKz14.out 1).trans rfl, (blk_cell BKz14.out 2).trans rfl, (blk_cell BKz14.out 3).trans rfl, (blk_cell BKz14.out 4).trans rfl, (blk_cell BKz16.out 0).trans rfl, (blk_cell BKz16.out 1).trans rfl, (blk_cell BKz16.out 2).trans rfl⟩ (fun hHeld => ?_)
       clear hK K
       refine norm_ (by show Act.put _ (some 65) _ = _; simp only [Act.put, sa_, s0_, s1_, i64_w, i32_w]; rfl) ?_
       refine pu_ 8 (some 57) HT_ rfl rfl (by kernel_rfl) (fun _ _ _ h => h) (.inl ⟨by rfl, by intro w'; go_simp; with_reducible rfl⟩) (by simp only [Act.put, sa_, s0_, s1_, i64_w, i32_w]; rfl) ?_
       refine pu_ 9 (some 66) HT_ rfl rfl (by kernel_rfl) (fun _ _ _ h => h) (.inl ⟨by rfl, by intro w'; go_simp; with_reducible rfl⟩) (by simp only [Act.put, sa_, s0_, s1_, i64_w, i32_w]; rfl) ?_
       refine pu_ 10 (some 67) HT_ rfl rfl (by kernel_rfl) (fun _ _ _ h => h) (.inl ⟨by rfl, by intro w'; go_simp; with_reducible rfl⟩) (by simp only [Act.put, sa_, s0_, s1_, i64_w, i32_w]; rfl) ?_
       refine pu_ 11 (some 68) HT_ rfl rfl (by kernel_rfl) (fun _ _ _ h => h) (.inl ⟨by rfl, by intro w'; go_simp; with_reducible rfl⟩) (by simp only [Act.put, sa_, s0_, s1_, i64_w, i32_w]; rfl) ?_
       refine la_ 12 none HT_ rfl rfl (by kernel_rfl) (by decide) (fun K hK => ?_)
       have hs56 : w55.cell? ⟨gbz14, 0, none⟩ = some (.string xz15000_1) := (blk_cell BKz14.out 0).trans rfl
       have hfs56 := blk_frozen BKz14.out 0
       have hns56_1 := NBz16_z14.out
       have hms56_1 := NBz14_z16.out
       have hs57 : w55.cell? ⟨gbz14, 1, none⟩ = some (.int .i64 xz15001_1) := (blk_cell BKz14.out 1).trans rfl
       have hfs57 := blk_frozen BKz14.out 1
       have hns57_1 := NBz16_z14.out
       have hms57_1 := NBz14_z16.out
       have hs59 : w55.cell? ⟨gbz14, 2, none⟩ = some (.slice Ao53 xz15002_1.length co53) := (blk_cell BKz14.out 2).trans rfl
       have hfs59 := blk_frozen BKz14.out 2
       have hns59_1 := NBz16_z14.out
       have hms59_1 := NBz14_z16.out
       have hs61 : w55.cell? ⟨gbz14, 3, none⟩ = some (.slice Ao54 xz15003_1.length co54) := (blk_cell BKz14.out 3).trans rfl
       have hfs61 := blk_frozen BKz14.out 3
       have hns61_1 := NBz16_z14.out
       have hms61_1 := NBz14_z16.out
       have hs62 : w55.cell? ⟨gbz14, 4, none⟩ = some (.bool xz15004_1) := (blk_cell BKz14.out 4).trans rfl
       have hfs62 := blk_frozen BKz14.out 4
       have hns62_1 := NBz16_z14.out
       have hms62_1 := NBz14_z16.out
       refine skip_ (by rfl) rfl (by go_simp; rfl) ?_
       refine hK.out _ _ ?_
       clear hK K
       refine pu_ 13 (some 12) HT_ rfl rfl (by kernel_rfl) (fun _ _ _ h => h) (.inl ⟨by rfl, by intro w'; go_simp; with_reducible rfl⟩) (by simp only [Act.put, sa_, s0_, s1_, i64_w, i32_w]; rfl) ?_
       refine done_ (done_of HT_.out (by kernel_rfl)) ?_
       try go_wp2
       go_roundg kj13
       case measure => have := HK1.out; have := HJ13.out; omega
       case rel => exact ⟨(wrap64 (x10_1 + 1)), (tz36), (tz37), (tz38), (tz41), (tz44), (.slice Ao58 tz38.length co58), (.slice Ao60 tz41.length co60), (by first | rfl | (simp; done) | (simp [*]; done)), H', ⟨by have := HK1.out; have := HJ13.out; omega⟩, ⟨by (with_reducible repeat (first | apply Kd.R_alloc | apply Kd.R_drewN | apply Kd.R_drew)); exact Kd.R_mono (rf5 (Kd.R_types HOz40.out BKz14.out (by decide)) (fun _ hk => hk.2)) (fun _ hk => trivial)⟩, ⟨by (with_reducible repeat (first | apply Kd.R_alloc | apply Kd.R_drewN | apply Kd.R_drew)); exact Kd.R_mono (rf5 (Kd.R_types HOz43.out BKz14.out (by decide)) (fun _ hk => hk.2)) (fun _ hk => trivial)⟩, ⟨by (with_reducible repeat (first | refine blk_drewN ?_ _ | refine blk_drew ?_ | refine blk_alloc ?_ _)); refine blk_put (cs := #[.string tz36, .int .i64 tz37, .slice Ao58 tz38.length co58, .slice Ao60 tz41.length co60, .bool xz15004_1]) ?_ 4 _ rfl; (with_reducible repeat (first | refine blk_drewN ?_ _ | refine blk_drew ?_ | refine blk_alloc ?_ _)); refine blk_put (cs := #[.string tz36, .int .i64 tz37, .slice Ao58 tz38.length co58, .slice Ao54 xz15003_1.length co54, .bool xz15004_1]) ?_ 3 _ rfl; (with_reducible repeat (first | refine blk_drewN ?_ _ | refine blk_drew ?_ | refine blk_alloc ?_ _)); refine blk_put (cs := #[.string tz36, .int .i64 tz37, .slice Ao53 xz15002_1.length co53, .slice Ao54 xz15003_1.length co54, .bool xz15004_1]) ?_ 2 _ rfl; (with_reducible repeat (first | refine blk_drewN ?_ _ | refine blk_drew ?_ | refine blk_alloc ?_ _)); refine blk_put (cs := #[.string tz36, .int .i64 xz15001_1, .slice Ao53 xz15002_1.length co53, .slice Ao54 xz15003_1.length co54, .bool xz15004_1]) ?_ 1 _ rfl; (with_reducible repeat (first | refine blk_drewN ?_ _ | refine blk_drew ?_ | refine blk_alloc ?_ _)); refine blk_put (cs := #[.string xz15000_1, .int .i64 xz15001_1, .slice Ao53 xz15002_1.length co53, .slice Ao54 xz15003_1.length co54, .bool xz15004_1]) ?_ 0 _ rfl; (with_reducible repeat (first | refine blk_drewN ?_ _ | refine blk_drew ?_ | refine blk_alloc ?_ _)); exact BKz14.out⟩, ⟨by repeat (first | (with_reducible first | exact HB.out | apply below_alloc | apply pw_below_drewN | apply below_drew1 | refine below_set ?_ GEz14.out | refine below_set ?_ GEz16.out) | exact HB.out)⟩⟩
      rw [if_pos c20] at H
      have c20b0 : (tz17 == 0) = true := beq_iff_eq.mpr c20
      have c20b1 : (tz17 != 0) = false := bne_eq_false_iff_eq.mpr c20
      clear c20
      replace H := Option.bind_eq_some_iff.mp H
      obtain ⟨tz18, A210, H⟩ := H
      replace H : ((ideal_Label.f kj13 xz15000_1 xz15001_1 xz15002_1 xz15003_1 xz15004_1 (strOfNums (([(tz18) % 256] : List Int)))).bind fun btz22 => (if btz22.2.2.2.2.2.2 = 0 then (columbariumlaw08_IdealClash.l0 kj13 l2 tz1 tz13 (wrap64 (x10_1 + 1)) btz22.2.1 btz22.2.2.1 btz22.2.2.2.1 btz22.2.2.2.2.1 btz22.2.2.2.2.2.1) else (none))) = some r := H
      have A21 := Aside0.mk A210
      clear A210
      obtain ⟨yz19, hyz19⟩ : ∃ y_ : List Int, y_ = (([(tz18) % 256] : List Int)) := ⟨_, rfl⟩
      replace H : ((ideal_Label.f kj13 xz15000_1 xz15001_1 xz15002_1 xz15003_1 xz15004_1 (strOfNums yz19)).bind fun btz22 => (if btz22.2.2.2.2.2.2 = 0 then (columbariumlaw08_IdealClash.l0 kj13 l2 tz1 tz13 (wrap64 (x10_1 + 1)) btz22.2.1 btz22.2.2.1 btz22.2.2.2.1 btz22.2.2.2.2.1 btz22.2.2.2.2.2.1) else (none))) = some r := by first | (rw [hyz19]; with_reducible exact H) | (have H2_ := (Option.bind_some _ _).symm.trans H; rw [hyz19]; with_reducible exact H2_) | (have H2_ := (Option.bind_some _ _).symm.trans H; with_reducible exact H2_) | with_reducible exact H | (rw [hyz19]; exact H) | exact H
      have Nyz19 := am hyz19
      clear hyz19
      replace H := Option.bind_eq_some_iff.mp H
      obtain ⟨⟨tz22, tz23, tz24, tz25, tz28, tz31, tz32⟩, A220, H⟩ := H
      replace H : (if tz32 = 0 then (columbariumlaw08_IdealClash.l0 kj13 l2 tz1 tz13 (wrap64 (x10_1 + 1)) tz23 tz24 tz25 tz28 tz31) else (none)) = some r := H
      have A22 := Aside0.mk A220
      clear A220
      by_cases c23 : tz32 = 0
      rotate_left
      ·rw [if_neg c23] at H
       exact absurd H (by simp)
      rw [if_pos c23] at H
      have c23b0 : (tz32 == 0) = true := beq_iff_eq.mpr c23
      have c23b1 : (tz32 != 0) = false := bne_eq_false_iff_eq.mpr c23
      clear c23
      have H' := am H
      clear H
      have pz15 : 0 ≤ (x10_1 : Int) := of_decide_eq_true (by first | (with_reducible assumption) | assumption)
      have qz15 : x10_1 < (l2.length : Int) := of_decide_eq_true (by first | (with_reducible assumption) | assumption)
      obtain ⟨adz15, ez15, hxz15_0, hxz15_1, hxz15_2⟩ := at_T46 HR2.out x10_1 pz15 qz15
      cases ez15
      replace hxz15_0 := (HB.out.cell (World.block_lt_of_cell? w _ hxz15_0)).trans hxz15_0
      replace hxz15_1 := (HB.out.cell (World.block_lt_of_cell? w _ hxz15_1)).trans hxz15_1
      replace hxz15_2 := (HB.out.cell (World.block_lt_of_cell? w _ hxz15_2)).trans hxz15_2
      replace pz15 := eq_true pz15
      replace qz15 := eq_true qz15
      try go_wp2_with (first | ((with_reducible refine gate_dst (N := 11) rfl ?_); (try (refine gate_guard (by rfl) ?_; dsimp only)); refine box_event ?hg (N := 11) ?hd (cs := #[.int .i64 0, .int .i64 0, .int .i64 0]) (t := 46) ?hr ?_; (case hd => rfl); (case hg => rfl); (case hr => first | (go_simp; done) | (go_simp; rfl)); intro gbz16 hg w24 hbox hb; have n0_ := am (Kd.R_below (pr HO_z15002) hb); have n1_ := am (Kd.R_below (pr HO_z15003) hb); have n2_ := am (blk_below (pk BKz14) hb); have n3_ := am (below_step (by repeat (first | (with_reducible first | exact HB.out | apply below_alloc | apply pw_below_drewN | apply below_drew1 | refine below_set ?_ GEz14.out) | exact HB.out)) hb); have n4_ := am (hbox); have n5_ := am ((by rw [hg]; exact (below_size (by repeat (first | (with_reducible first | exact HB.out | apply below_alloc | apply pw_below_drewN | apply below_drew1 | refine below_set ?_ GEz14.out) | exact HB.out))) : w.heap.size ≤ gbz16)); have n6_ := am ((by rw [hg]; exact (below_size (by repeat (first | (with_reducible first | exact HB.out | apply below_alloc | apply pw_below_drewN | apply below_drew1 | refine below_set ?_ GEz14.out) | exact HB.out))) : w.heap.size ≤ gbz16)); have n7_ := am ((by rw [hg]; exact Nat.ne_of_lt (blk_lt (g := gbz14) (o := .cells #[.string xz15000_1, .int .i64 xz15001_1, uz15002, uz15003, .bool xz15004_1] 50 (0, 0)) (pk BKz14)) : gbz14 ≠ gbz16)); have n8_ := am ((by rw [hg]; exact Nat.ne_of_gt (blk_lt (g := gbz14) (o := .cells #[.string xz15000_1, .int .i64 xz15001_1, uz15002, uz15003, .bool xz15004_1] 50 (0, 0)) (pk BKz14)) : gbz16 ≠ gbz14)); clear HO_z15002; clear HO_z15003; clear BKz14; clear HB; have HO_z15002 := n0_; have HO_z15003 := n1_; have BKz14 := n2_; have HB := n3_; have BKz16 := n4_; have GWz16 := n5_; have GEz16 := n6_; have NBz14_z16 := n7_; have NBz16_z14 := n8_; clear n0_ n1_ n2_ n3_ n4_ n5_ n6_ n7_ n8_; clear hb hbox hg; have hnb25 := NBz16_z14.out; have hnc25 := NBz14_z16.out; have hcz26_0 : w24.cell? ⟨gbz16, 0, none⟩ = some (.int .i64 0) := (blk_cell BKz16.out 0).trans rfl; have hcz26_1 : w24.cell? ⟨gbz16, 1, none⟩ = some (.int .i64 0) := (blk_cell BKz16.out 1).trans rfl; have hcz26_2 : w24.cell? ⟨gbz16, 2, none⟩ = some (.int .i64 0) := (blk_cell BKz16.out 2).trans rfl; have hfz26_0 := blk_frozen BKz16.out 0; have hfz26_1 := blk_frozen BKz16.out 1; have hfz26_2 := blk_frozen BKz16.out 2) | ((with_reducible refine gate_callee (f := 34) rfl ?_); refine goesL_ (some 43) rfl rfl Try.func34 (by kernel_rfl) rfl #[.int .i64 ((rd_T46 l2 x10_1).f0), .int .i64 2] rfl (by (try simp only [List.map_toArray, List.map_cons, List.map_nil]); first | done | rfl | (simp only [List.length_drop, List.length_take]; rfl)) ?_; (with_reducible refine (columbariumlaw08_pick.calls ((rd_T46 l2 x10_1).f0) 2 tz17 _ A19.out).mono ?_); rintro e w' ⟨rfl, ⟨nd, rfl⟩⟩; refine ⟨_, rfl, ?_⟩))
      have n0_ : Aside0 (Kd.R k72 72 (((w24.setCell ⟨gbz16, 0, none⟩ (.int .i64 ((rd_T46 l2 x10_1).f0))).setCell ⟨gbz16, 1, none⟩ (.int .i64 ((rd_T46 l2 x10_1).f1))).setCell ⟨gbz16, 2, none⟩ (.int .i64 ((rd_T46 l2 x10_1).f2))) w.heap.size (fun _ => True) uz15002 xz15002_1) := ⟨by (with_reducible repeat (first | apply Kd.R_alloc | apply Kd.R_drewN | apply Kd.R_drew)); exact Kd.R_mono (rf3 (Kd.R_types HO_z15002.out BKz16.out (by decide)) (fun _ hk => hk.2)) (fun _ hk => trivial)⟩
      have n1_ : Aside0 (Kd.R k74 74 (((w24.setCell ⟨gbz16, 0, none⟩ (.int .i64 ((rd_T46 l2 x10_1).f0))).setCell ⟨gbz16, 1, none⟩ (.int .i64 ((rd_T46 l2 x10_1).f1))).setCell ⟨gbz16, 2, none⟩ (.int .i64 ((rd_T46 l2 x10_1).f2))) w.heap.size (fun _ => True) uz15003 xz15003_1) := ⟨by (with_reducible repeat (first | apply Kd.R_alloc | apply Kd.R_drewN | apply Kd.R_drew)); exact Kd.R_mono (rf3 (Kd.R_types HO_z15003.out BKz16.out (by decide)) (fun _ hk => hk.2)) (fun _ hk => trivial)⟩
      have n2_ : Aside0 ((((w24.setCell ⟨gbz16, 0, none⟩ (.int .i64 ((rd_T46 l2 x10_1).f0))).setCell ⟨gbz16, 1, none⟩ (.int .i64 ((rd_T46 l2 x10_1).f1))).setCell ⟨gbz16, 2, none⟩ (.int .i64 ((rd_T46 l2 x10_1).f2))).heap[gbz14]? = some (.cells #[.string xz15000_1, .int .i64 xz15001_1, uz15002, uz15003, .bool xz15004_1] 50 (0, 0))) := ⟨by (with_reducible repeat (first | refine blk_drewN ?_ _ | refine blk_drew ?_ | refine blk_alloc ?_ _)); refine blk_far ?_ NBz14_z16.out _; (with_reducible repeat (first | refine blk_drewN ?_ _ | refine blk_drew ?_ | refine blk_alloc ?_ _)); refine blk_far ?_ NBz14_z16.out _; (with_reducible repeat (first | refine blk_drewN ?_ _ | refine blk_drew ?_ | refine blk_alloc ?_ _)); refine blk_far ?_ NBz14_z16.out _; (with_reducible repeat (first | refine blk_drewN ?_ _ | refine blk_drew ?_ | refine blk_alloc ?_ _)); exact BKz14.out⟩
      have n3_ : Aside0 ((((w24.setCell ⟨gbz16, 0, none⟩ (.int .i64 ((rd_T46 l2 x10_1).f0))).setCell ⟨gbz16, 1, none⟩ (.int .i64 ((rd_T46 l2 x10_1).f1))).setCell ⟨gbz16, 2, none⟩ (.int .i64 ((rd_T46 l2 x10_1).f2))).heap[gbz16]? = some (.cells #[.int .i64 ((rd_T46 l2 x10_1).f0), .int .i64 ((rd_T46 l2 x10_1).f1), .int .i64 ((rd_T46 l2 x10_1).f2)] 46 (0, 0))) := ⟨by (with_reducible repeat (first | refine blk_drewN ?_ _ | refine blk_drew ?_ | refine blk_alloc ?_ _)); refine blk_put (cs := #[.int .i64 ((rd_T46 l2 x10_1).f0), .int .i64 ((rd_T46 l2 x10_1).f1), .int .i64 0]) ?_ 2 _ rfl; (with_reducible repeat (first | refine blk_drewN ?_ _ | refine blk_drew ?_ | refine blk_alloc ?_ _)); refine blk_put (cs := #[.int .i64 ((rd_T46 l2 x10_1).f0), .int .i64 0, .int .i64 0]) ?_ 1 _ rfl; (with_reducible repeat (first | refine blk_drewN ?_ _ | refine blk_drew ?_ | refine blk_alloc ?_ _)); refine blk_put (cs := #[.int .i64 0, .int .i64 0, .int .i64 0]) ?_ 0 _ rfl; (with_reducible repeat (first | refine blk_drewN ?_ _ | refine blk_drew ?_ | refine blk_alloc ?_ _)); exact BKz16.out⟩
      have n4_ : Aside0 (Below w.heap.size w (((w24.setCell ⟨gbz16, 0, none⟩ (.int .i64 ((rd_T46 l2 x10_1).f0))).setCell ⟨gbz16, 1, none⟩ (.int .i64 ((rd_T46 l2 x10_1).f1))).setCell ⟨gbz16, 2, none⟩ (.int .i64 ((rd_T46 l2 x10_1).f2)))) := ⟨by repeat (first | (with_reducible first | exact HB.out | apply below_alloc | apply pw_below_drewN | apply below_drew1 | refine below_set ?_ GEz14.out | refine below_set ?_ GEz16.out) | exact HB.out)⟩
      (try clear HO_z15002); (try clear HO_z15003); (try clear BKz14); (try clear BKz16); (try clear HB)
      generalize (((w24.setCell ⟨gbz16, 0, none⟩ (.int .i64 ((rd_T46 l2 x10_1).f0))).setCell ⟨gbz16, 1, none⟩ (.int .i64 ((rd_T46 l2 x10_1).f1))).setCell ⟨gbz16, 2, none⟩ (.int .i64 ((rd_T46 l2 x10_1).f2))) = w27 at n0_ n1_ n2_ n3_ n4_ ⊢
      have HO_z15002 := n0_; have HO_z15003 := n1_; have BKz14 := n2_; have BKz16 := n3_; have HB := n4_; clear n0_ n1_ n2_ n3_ n4_
      (try (rw [drewN_self w27]; generalize hq_ : World.drewN w27 _ = w27; have n0_ : Aside0 (Kd.R k72 72 w27 w.heap.size (fun _ => True) uz15002 xz15002_1) := ⟨by rw [← hq_]; exact (pr HO_z15002)⟩; have n1_ : Aside0 (Kd.R k74 74 w27 w.heap.size (fun _ => True) uz15003 xz15003_1) := ⟨by rw [← hq_]; exact (pr HO_z15003)⟩; have n2_ : Aside0 (w27.heap[gbz14]? = some (.cells #[.string xz15000_1, .int .i64 xz15001_1, uz15002, uz15003, .bool xz15004_1] 50 (0, 0))) := ⟨by rw [← hq_]; exact (pk BKz14)⟩; have n3_ : Aside0 (w27.heap[gbz16]? = some (.cells #[.int .i64 ((rd_T46 l2 x10_1).f0), .int .i64 ((rd_T46 l2 x10_1).f1), .int .i64 ((rd_T46 l2 x10_1).f2)] 46 (0, 0))) := ⟨by rw [← hq_]; exact (pk BKz16)⟩; have n4_ : Aside0 (Below w.heap.size w w27) := ⟨by rw [← hq_]; exact (by repeat (first | (with_reducible first | exact HB.out | apply below_alloc | apply pw_below_drewN | apply below_drew1 | refine below_set ?_ GEz14.out | refine below_set ?_ GEz16.out) | exact HB.out))⟩; clear HO_z15002 HO_z15003 BKz14 BKz16 HB hq_; have HO_z15002 := n0_; have HO_z15003 := n1_; have BKz14 := n2_; have BKz16 := n3_; have HB := n4_; clear n0_ n1_ n2_ n3_ n4_))
      have n0_ := am (Kd.R_drew HO_z15002.out)
      have n1_ := am (Kd.R_drew HO_z15003.out)
      have n2_ := am (blk_drew BKz14.out)
      have n3_ := am (blk_drew BKz16.out)
      have n4_ := am (below_drew1 HB.out)
      clear HO_z15002 HO_z15003 BKz14 BKz16 HB; have HO_z15002 := n0_; have HO_z15003 := n1_; have BKz14 := n2_; have BKz16 := n3_; have HB := n4_; clear n0_ n1_ n2_ n3_ n4_
      refine start_ (n := 14) (S := fun w' => w'.cell? ⟨gbz14, 0, none⟩ = some (.string xz15000_1) ∧ w'.cell? ⟨gbz14, 1, none⟩ = some (.int .i64 xz15001_1) ∧ w'.cell? ⟨gbz14, 2, none⟩ = some (uz15002) ∧ w'.cell? ⟨gbz14, 3, none⟩ = some (uz15003) ∧ w'.cell? ⟨gbz14, 4, none⟩ = some (.bool xz15004_1) ∧ w'.cell? ⟨gbz16, 0, none⟩ = some (.int .i64 ((rd_T46 l2 x10_1).f0)) ∧ w'.cell? ⟨gbz16, 1, none⟩ = some (.int .i64 ((rd_T46 l2 x10_1).f1)) ∧ w'.cell? ⟨gbz16, 2, none⟩ = some (.int .i64 ((rd_T46 l2 x10_1).f2))) (ds := [12]) #[false, false, false, false, false, false, false, false, false, false, false, false, false, false] (by kernel_rfl) rfl rfl ⟨(blk_cell BKz14.out 0).trans rfl, (blk_cell BKz14.out 1).trans rfl, (blk_cell BKz14.out 2).trans rfl, (blk_cell BKz14.out 3).trans rfl, (blk_cell BKz14.out 4).trans rfl, (blk_cell BKz16.out 0).trans rfl, (blk_cell BKz16.out 1).trans rfl, (blk_cell BKz16.out 2).trans rfl⟩ (fun hHeld => ?_); refine with_tabW columbariumlaw08_IdealClash.tab9 columbariumlaw08_IdealClash.bits9 (fun HT_ HW_ => ?_)
      generalize w27.drew = w28 at HO_z15002 HO_z15003 BKz14 BKz16 HB hHeld ⊢
      refine pu_ 1 (some 47) HT_ rfl rfl (by kernel_rfl) (fun _ _ _ h => h) (.inl ⟨by rfl, by intro w'; go_simp; with_reducible rfl⟩) (by simp only [Act.put, sa_, s0_, s1_, i64_w, i32_w]; rfl) ?_
      refine tk_ 0 (some 46) HT_ HW_ rfl rfl (by kernel_rfl) (fun _ _ _ h => h) (.inl ⟨by rfl, by rintro w' ⟨s0, s1, s2, s3, s4, s5, s6, s7⟩; go_simp; with_reducible rfl⟩) hHeld (by simp only [Act.put, sa_, s0_, s1_, i64_w, i32_w]; rfl) ?_
      refine tk_ 2 (some 48) HT_ HW_ rfl rfl (by kernel_rfl) (fun _ _ _ h => h) (.inl ⟨by rfl, by rintro w' ⟨s0, s1, s2, s3, s4, s5, s6, s7⟩; go_simp; with_reducible rfl⟩) hHeld (by simp only [Act.put, sa_, s0_, s1_, i64_w, i32_w]; rfl) ?_
      refine on_ 3 (some 49) HT_ rfl rfl (by kernel_rfl) (by decide) (fun K hK => ?_)
      refine goes_ Try.func34 (by kernel_rfl) rfl #[.int .i64 ((rd_T46 l2 x10_1).f1), .int .i64 6] (by rfl) rfl rfl (by (try simp only [List.map_toArray, List.map_cons, List.map_nil]); first | done | rfl | (simp only [List.length_drop, List.length_take]; rfl)) ?_
      with_reducible refine (columbariumlaw08_pick.calls ((rd_T46 l2 x10_1).f1) 6 tz18 _ A21.out).mono ?_
      rintro e w' ⟨rfl, ⟨nd, rfl⟩⟩
      refine ⟨_, rfl, ?_⟩
      refine hK.out _ _ ⟨(blk_cell BKz14.out 0).trans rfl, (blk_cell BKz14.out 1).trans rfl, (blk_cell BKz14.out 2).trans rfl, (blk_cell BKz14.out 3).trans rfl, (blk_cell BKz14.out 4).trans rfl, (blk_cell BKz16.out 0).trans rfl, (blk_cell BKz16.out 1).trans rfl, (blk_cell BKz16.out 2).trans rfl⟩ (fun hHeld => ?_)
      clear hK K
      refine norm_ (by show Act.put _ (some 49) _ = _; simp only [Act.put, sa_, s0_, s1_, i64_w, i32_w]; rfl) ?_
      refine pu_ 4 (some 50) HT_ rfl rfl (by kernel_rfl) (fun _ _ _ h => h) (.inl ⟨by rfl, by intro w'; go_simp; with_reducible rfl⟩) (by simp only [Act.put, sa_, s0_, s1_, i64_w, i32_w]; rfl) ?_
      refine on_ 5 (some 51) HT_ rfl rfl (by kernel_rfl) (by decide) (fun K hK => ?_)
      refine Kd.R_lit_step (Kd.int .u8) _ 5 ?hg (N := 51) ?hd (xs := ([(tz18) % 256] : List Int)) (inner := [.int .u8 ((tz18) % 256)]) (ok := fun _ => True) (okp := fun _ => True) ?hr ?hp (fun _ hk => hk) trivial (Below.refl _ _) (Nat.le_refl _) (by simp) ?_; (case hd => rfl); (case hg => rfl); (case hr => first | (go_simp; done) | (go_simp; rfl)); (case hp => exact (Reps.one (show Kd.M (Kd.int .u8) _ _ _ ((tz18) % 256) [.int .u8 ((tz18) % 256)] from rfl) (Reps.none _ _)))
      intro vz20 w29 ho30 hb hg_ hnew_
      clear hg_ hnew_
      (first | rw [← Nyz19.out] at ho30 | (simp only [Int.reduceToNat] at ho30; rw [← Nyz19.out] at ho30))
      have n0_ := am (Kd.R_below (pr HO_z15002) hb)
      have n1_ := am (Kd.R_below (pr HO_z15003) hb)
      have n2_ := am (Kd.R_lower ho30 (below_size (by repeat (first | (with_reducible first | exact HB.out | apply below_alloc | apply pw_below_drewN | apply below_drew1 | refine below_set ?_ GEz14.out | refine below_set ?_ GEz16.out) | exact HB.out))))
      have n3_ := am (blk_below (pk BKz14) hb)
      have n4_ := am (blk_below (pk BKz16) hb)
      have n5_ := am (below_step (by repeat (first | (with_reducible first | exact HB.out | apply below_alloc | apply pw_below_drewN | apply below_drew1 | refine below_set ?_ GEz14.out | refine below_set ?_ GEz16.out) | exact HB.out)) hb)
      clear HO_z15002 HO_z15003 BKz14 BKz16 HB; have HO_z15002 := n0_; have HO_z15003 := n1_; have HOz21 := n2_; have BKz14 := n3_; have BKz16 := n4_; have HB := n5_; clear n0_ n1_ n2_ n3_ n4_ n5_; clear hb ho30
      obtain ⟨Ao32, co32, eo32⟩ := Kd.R_slice HO_z15002.out
      (first | subst eo32 | (injection eo32 with f1_ f2_ f3_; have f4_ := f1_.symm; have f5_ := f3_.symm; clear f1_ f2_ f3_; subst f4_; subst f5_))
      obtain ⟨Ao33, co33, eo33⟩ := Kd.R_slice HO_z15003.out
      (first | subst eo33 | (injection eo33 with f1_ f2_ f3_; have f4_ := f1_.symm; have f5_ := f3_.symm; clear f1_ f2_ f3_; subst f4_; subst f5_))
      refine hK.out _ _ ⟨(blk_cell BKz14.out 0).trans rfl, (blk_cell BKz14.out 1).trans rfl, (blk_cell BKz14.out 2).trans rfl, (blk_cell BKz14.out 3).trans rfl, (blk_cell BKz14.out 4).trans rfl, (blk_cell BKz16.out 0).trans rfl, (blk_cell BKz16.out 1).trans rfl, (blk_cell BKz16.out 2).trans rfl⟩ (fun hHeld => ?_)
      clear hK K
      refine norm_ (by show Act.put _ (some 51) _ = _; simp only [Act.put, sa_, s0_, s1_, i64_w, i32_w]; rfl) ?_
      refine on_ 6 (some 52) HT_ rfl rfl (by kernel_rfl) (by decide) (fun K hK => ?_)
      have hcv31 := own_string (P := Try.prog) Try.underlying57 Try.underlying5 Try.underlying9 (Kd.own_of_R HOz21.out)
      refine value_ (w1 := ?_) (v := ?_) (by rfl) rfl ?_ ?_
      rotate_left 2
      ·go_simp
       constructor
       rotate_left
       ·rfl
       rfl
      clear hcv31
      refine hK.out _ _ ⟨(blk_cell BKz14.out 0).trans rfl, (blk_cell BKz14.out 1).trans rfl, (blk_cell BKz14.out 2).trans rfl, (blk_cell BKz14.out 3).trans rfl, (blk_cell BKz14.out 4).trans rfl, (blk_cell BKz16.out 0).trans rfl, (blk_cell BKz16.out 1).trans rfl, (blk_cell BKz16.out 2).trans rfl⟩ (fun hHeld => ?_)
      clear hK K
      refine norm_ (by show Act.put _ (some 52) _ = _; simp only [Act.put, sa_, s0_, s1_, i64_w, i32_w]; rfl) ?_
      refine on_ 7 (some 53) HT_ rfl rfl (by kernel_rfl) (by decide) (fun K hK => ?_)
      refine goes_ Try.func35 (by kernel_rfl) rfl #[.agg #[.string xz15000_1, .int .i64 xz15001_1, .slice Ao32 xz15002_1.length co32, .slice Ao33 xz15003_1.length co33, .bool xz15004_1], .string (strOfNums yz19)] (by rfl) rfl rfl (by (try simp only [List.map_toArray, List.map_cons, List.map_nil]); first | done | rfl | (simp only [List.length_drop, List.length_take]; rfl)) ?_
      with_reducible refine (ideal_Label.calls kj13 xz15000_1 xz15001_1 _ _ xz15002_1 _ _ xz15003_1 xz15004_1 (strOfNums yz19) tz22 tz23 tz24 tz25 tz28 tz31 tz32 _ ?side1 ?side2 ?side3 ?side4 A22.out).mono ?_
      (case side1 => repeat (first | exact (Kd.R_reads' HO_z15002.out).2.2 | (with_reducible refine Kd.C_alloc ?_ _) | (with_reducible refine Kd.C_drewN ?_ _) | (with_reducible refine Kd.C_drew ?_)))
      (case side2 => exact (Kd.R_reads' HO_z15002.out).2.1)
      (case side3 => repeat (first | exact (Kd.R_reads' HO_z15003.out).2.2 | (with_reducible refine Kd.C_alloc ?_ _) | (with_reducible refine Kd.C_drewN ?_ _) | (with_reducible refine Kd.C_drew ?_)))
      (case side4 => exact (Kd.R_reads' HO_z15003.out).2.1)
      rintro e w34 ⟨vz26, vz29, rfl, ho0, ho1, hb⟩
      refine ⟨_, rfl, ?_⟩
      have n0_ := am (Kd.R_elder' (pr HO_z15002) (Kd.R_base ho0) hb)
      have n1_ := am (Kd.R_elder' (pr HO_z15003) (Kd.R_base ho1) hb)
      have n2_ := am (Kd.R_below (pr HOz21) hb)
      have n3_ := am (Kd.R_lower (Kd.R_new' ho0 (Kd.R_lt (pr HO_z15002))) (below_size (by repeat (first | (with_reducible first | exact HB.out | apply below_alloc | apply pw_below_drewN | apply below_drew1 | refine below_set ?_ GEz14.out | refine below_set ?_ GEz16.out) | exact HB.out))))
      have n4_ := am (Kd.R_lower (Kd.R_new' ho1 (Kd.R_lt (pr HO_z15003))) (below_size (by repeat (first | (with_reducible first | exact HB.out | apply below_alloc | apply pw_below_drewN | apply below_drew1 | refine below_set ?_ GEz14.out | refine below_set ?_ GEz16.out) | exact HB.out))))
      have n5_ := am (blk_below (pk BKz14) hb)
      have n6_ := am (blk_below (pk BKz16) hb)
      have n7_ := am (below_step (by repeat (first | (with_reducible first | exact HB.out | apply below_alloc | apply pw_below_drewN | apply below_drew1 | refine below_set ?_ GEz14.out | refine below_set ?_ GEz16.out) | exact HB.out)) hb)
      clear HO_z15002 HO_z15003 HOz21 BKz14 BKz16 HB; have HO_z15002 := n0_; have HO_z15003 := n1_; have HOz21 := n2_; have HOz27 := n3_; have HOz30 := n4_; have BKz14 := n5_; have BKz16 := n6_; have HB := n7_; clear n0_ n1_ n2_ n3_ n4_ n5_ n6_ n7_; (try clear hb); (try clear hb2); (try clear hk); (try clear hi); (try clear ho0); (try clear ho1)
      obtain ⟨Ao37, co37, eo37⟩ := Kd.R_slice HOz27.out
      (first | subst eo37 | (injection eo37 with f1_ f2_ f3_; have f4_ := f1_.symm; have f5_ := f3_.symm; clear f1_ f2_ f3_; subst f4_; subst f5_))
      obtain ⟨Ao39, co39, eo39⟩ := Kd.R_slice HOz30.out
      (first | subst eo39 | (injection eo39 with f1_ f2_ f3_; have f4_ := f1_.symm; have f5_ := f3_.symm; clear f1_ f2_ f3_; subst f4_; subst f5_))
      refine hK.out _ _ ⟨(blk_cell BKz14.out 0).trans rfl, (blk_cell BKz14.out 1).trans rfl, (blk_cell BKz14.out 2).trans rfl, (blk_cell BKz14.out 3).trans rfl, (blk_cell BKz14.out 4).trans rfl, (blk_cell BKz16.out 0).trans rfl, (blk_cell BKz16.out 1).trans rfl, (blk_cell BKz16.out 2).trans rfl⟩ (fun hHeld => ?_)
      clear hK K
      refine norm_ (by show Act.put _ (some 53) _ = _; simp only [Act.put, sa_, s0_, s1_, i64_w, i32_w]; rfl) ?_
      refine pu_ 8 (some 45) HT_ rfl rfl (by kernel_rfl) (fun _ _ _ h => h) (.inl ⟨by rfl, by intro w'; go_simp; with_reducible rfl⟩) (by simp only [Act.put, sa_, s0_, s1_, i64_w, i32_w]; rfl) ?_
      refine pu_ 9 (some 54) HT_ rfl rfl (by kernel_rfl) (fun _ _ _ h => h) (.inl ⟨by rfl, by intro w'; go_simp; with_reducible rfl⟩) (by simp only [Act.put, sa_, s0_, s1_, i64_w, i32_w]; rfl) ?_
      refine pu_ 10 (some 55) HT_ rfl rfl (by kernel_rfl) (fun _ _ _ h => h) (.inl ⟨by rfl, by intro w'; go_simp; with_reducible rfl⟩) (by simp only [Act.put, sa_, s0_, s1_, i64_w, i32_w]; rfl) ?_
      refine pu_ 11 (some 56) HT_ rfl rfl (by kernel_rfl) (fun _ _ _ h => h) (.inl ⟨by rfl, by intro w'; go_simp; with_reducible rfl⟩) (by simp only [Act.put, sa_, s0_, s1_, i64_w, i32_w]; rfl) ?_
      refine la_ 12 none HT_ rfl rfl (by kernel_rfl) (by decide) (fun K hK => ?_)
      have hs35 : w34.cell? ⟨gbz14, 0, none⟩ = some (.string xz15000_1) := (blk_cell BKz14.out 0).trans rfl
      have hfs35 := blk_frozen BKz14.out 0
      have hns35_1 := NBz16_z14.out
      have hms35_1 := NBz14_z16.out
      have hs36 : w34.cell? ⟨gbz14, 1, none⟩ = some (.int .i64 xz15001_1) := (blk_cell BKz14.out 1).trans rfl
      have hfs36 := blk_frozen BKz14.out 1
      have hns36_1 := NBz16_z14.out
      have hms36_1 := NBz14_z16.out
      have hs38 : w34.cell? ⟨gbz14, 2, none⟩ = some (.slice Ao32 xz15002_1.length co32) := (blk_cell BKz14.out 2).trans rfl
      have hfs38 := blk_frozen BKz14.out 2
      have hns38_1 := NBz16_z14.out
      have hms38_1 := NBz14_z16.out
      have hs40 : w34.cell? ⟨gbz14, 3, none⟩ = some (.slice Ao33 xz15003_1.length co33) := (blk_cell BKz14.out 3).trans rfl
      have hfs40 := blk_frozen BKz14.out 3
      have hns40_1 := NBz16_z14.out
      have hms40_1 := NBz14_z16.out
      have hs41 : w34.cell? ⟨gbz14, 4, none⟩ = some (.bool xz15004_1) := (blk_cell BKz14.out 4).trans rfl
      have hfs41 := blk_frozen BKz14.out 4
      have hns41_1 := NBz16_z14.out
      have hms41_1 := NBz14_z16.out
      refine skip_ (by rfl) rfl (by go_simp; rfl) ?_
      refine hK.out _ _ ?_
      clear hK K
      refine pu_ 13 (some 12) HT_ rfl rfl (by kernel_rfl) (fun _ _ _ h => h) (.inl ⟨by rfl, by intro w'; go_simp; with_reducible rfl⟩) (by simp only [Act.put, sa_, s0_, s1_, i64_w, i32_w]; rfl) ?_
      refine done_ (done_of HT_.out (by kernel_rfl)) ?_
      try go_wp2
      go_roundg kj13
      case measure => have := HK1.out; have := HJ13.out; omega
      case rel => exact ⟨(wrap64 (x10_1 + 1)), (tz23), (tz24), (tz25), (tz28), (tz31), (.slice Ao37 tz25.length co37), (.slice Ao39 tz28.length co39), (by first | rfl | (simp; done) | (simp [*]; done)), H', ⟨by have := HK1.out; have := HJ13.out; omega⟩, ⟨by (with_reducible repeat (first | apply Kd.R_alloc | apply Kd.R_drewN | apply Kd.R_drew)); exact Kd.R_mono (rf5 (Kd.R_types HOz27.out BKz14.out (by decide)) (fun _ hk => hk.2)) (fun _ hk => trivial)⟩, ⟨by (with_reducible repeat (first | apply Kd.R_alloc | apply Kd.R_drewN | apply Kd.R_drew)); exact Kd.R_mono (rf5 (Kd.R_types HOz30.out BKz14.out (by decide)) (fun _ hk => hk.2)) (fun _ hk => trivial)⟩, ⟨by (with_reducible repeat (first | refine blk_drewN ?_ _ | refine blk_drew ?_ | refine blk_alloc ?_ _)); refine blk_put (cs := #[.string tz23, .int .i64 tz24, .slice Ao37 tz25.length co37, .slice Ao39 tz28.length co39, .bool xz15004_1]) ?_ 4 _ rfl; (with_reducible repeat (first | refine blk_drewN ?_ _ | refine blk_drew ?_ | refine blk_alloc ?_ _)); refine blk_put (cs := #[.string tz23, .int .i64 tz24, .slice Ao37 tz25.length co37, .slice Ao33 xz15003_1.length co33, .bool xz15004_1]) ?_ 3 _ rfl; (with_reducible repeat (first | refine blk_drewN ?_ _ | refine blk_drew ?_ | refine blk_alloc ?_ _)); refine blk_put (cs := #[.string tz23, .int .i64 tz24, .slice Ao32 xz15002_1.length co32, .slice Ao33 xz15003_1.length co33, .bool xz15004_1]) ?_ 2 _ rfl; (with_reducible repeat (first | refine blk_drewN ?_ _ | refine blk_drew ?_ | refine blk_alloc ?_ _)); refine blk_put (cs := #[.string tz23, .int .i64 xz15001_1, .slice Ao32 xz15002_1.length co32, .slice Ao33 xz15003_1.length co33, .bool xz15004_1]) ?_ 1 _ rfl; (with_reducible repeat (first | refine blk_drewN ?_ _ | refine blk_drew ?_ | refine blk_alloc ?_ _)); refine blk_put (cs := #[.string xz15000_1, .int .i64 xz15001_1, .slice Ao32 xz15002_1.length co32, .slice Ao33 xz15003_1.length co33, .bool xz15004_1]) ?_ 0 _ rfl; (with_reducible repeat (first | refine blk_drewN ?_ _ | refine blk_drew ?_ | refine blk_alloc ?_ _)); exact BKz14.out⟩, ⟨by repeat (first | (with_reducible first | exact HB.out | apply below_alloc | apply pw_below_drewN | apply below_drew1 | refine below_set ?_ GEz14.out | refine below_set ?_ GEz16.out) | exact HB.out)⟩⟩
     replace c16 := Bool.eq_false_iff.mpr c16
     subst c16
     have H1 : (columbariumlaw08_IdealClash.l1 kj13 tz1 tz13 false 0 xz15000_1 xz15001_1 xz15002_1 xz15003_1 xz15004_1) = some r := by rw [if_neg (show ¬ (false = true) by decide)] at H; exact H
     clear H
     have H := H1
     clear H1
     have H' := am H
     clear H
     go_wp2
     go_loopg [13, 14] kj13 (fun kq v13 v14 w' => ∃ (x13_3 : Bool) (x14_3 : Int), v13 = .bool x13_3 ∧ v14 = .int .i64 x14_3 ∧ Aside0 (columbariumlaw08_IdealClash.l1 kq tz1 tz13 x13_3 x14_3 xz15000_1 xz15001_1 xz15002_1 xz15003_1 xz15004_1 = some r) ∧ Aside0 (kq ≤ kj13) ∧ Aside0 (Kd.R k72 72 w' w.heap.size (fun _ => True) uz15002 xz15002_1) ∧ Aside0 (Kd.R k74 74 w' w.heap.size (fun _ => True) uz15003 xz15003_1) ∧ Aside0 (w'.heap[gbz14]? = some (.cells #[.string xz15000_1, .int .i64 xz15001_1, uz15002, uz15003, .bool xz15004_1] 50 (0, 0))) ∧ Aside0 (Below w.heap.size w w'))
     case atStart => exact ⟨(false), (0), (by first | rfl | (simp; done) | (simp [*]; done)), (by first | rfl | (simp; done) | (simp [*]; done)), H', ⟨Nat.le_refl _⟩, ⟨by (with_reducible repeat (first | apply Kd.R_alloc | apply Kd.R_drewN | apply Kd.R_drew)); exact HO_z15002.out⟩, ⟨by (with_reducible repeat (first | apply Kd.R_alloc | apply Kd.R_drewN | apply Kd.R_drew)); exact HO_z15003.out⟩, ⟨by (with_reducible repeat (first | refine blk_drewN ?_ _ | refine blk_drew ?_ | refine blk_alloc ?_ _)); exact BKz14.out⟩, ⟨by repeat (first | (with_reducible first | exact HB.out | apply below_alloc | apply pw_below_drewN | apply below_drew1 | refine below_set ?_ GEz14.out) | exact HB.out)⟩⟩
     case round =>
      clear H'
      try clear c1
      try clear p1
      try clear q1
      try clear hx1
      try clear c2
      try clear p2
      try clear c3
      try clear hcv3
      try clear c4
      try clear p6
      try clear p12
      try clear q12
      try clear hx12
      try clear c16
      try clear c17
      try clear c18
      try clear c20
      try clear c20b0
      try clear c20b1
      try clear c23
      try clear c23b0
      try clear c23b1
      try clear c25
      try clear hcv31
      try clear c34
      try clear c35
      try clear c39
      try clear c40
      try clear c41
      try clear c45
      try clear c45b0
      try clear c45b1
      try clear c47
      try clear hcz26_0
      try clear hcz26_1
      try clear hcz26_2
      try clear hcz48_0
      try clear hcz48_1
      try clear hcz48_2
      try clear hfz26_0
      try clear hfz26_1
      try clear hfz26_2
      try clear hfz48_0
      try clear hfz48_1
      try clear hfz48_2
      try clear hxz15_0
      try clear hxz15_1
      try clear hxz15_2
      try clear pz15
      try clear qz15
      obtain ⟨x13_3, x14_3, rfl, rfl, HA, HK3, HO_z15002, HO_z15003, BKz14, HB⟩ := hrel
      cases gk with
      | zero => exact absurd HA.out (by simp [columbariumlaw08_IdealClash.l1])
      | succ k3 =>
       have H := HA.out
       clear HA
       simp only [columbariumlaw08_IdealClash.l1] at H
       by_cases c63 : x14_3 < (xz15002_1.length : Int)
       ·rw [if_pos c63] at H
        have c63b0 : decide (x14_3 < (xz15002_1.length : Int)) = true := decide_eq_true c63
        clear c63
        have H' := am H
        clear H
        have hcz64_0 : wr.cell? ⟨gbz14, 0, none⟩ = some (.string xz15000_1) := (blk_cell BKz14.out 0).trans rfl
        have hcz64_1 : wr.cell? ⟨gbz14, 1, none⟩ = some (.int .i64 xz15001_1) := (blk_cell BKz14.out 1).trans rfl
        have hcz64_2 : wr.cell? ⟨gbz14, 2, none⟩ = some (uz15002) := (blk_cell BKz14.out 2).trans rfl
        have hcz64_3 : wr.cell? ⟨gbz14, 3, none⟩ = some (uz15003) := (blk_cell BKz14.out 3).trans rfl
        have hcz64_4 : wr.cell? ⟨gbz14, 4, none⟩ = some (.bool xz15004_1) := (blk_cell BKz14.out 4).trans rfl
        have hfz64_0 := blk_frozen BKz14.out 0
        have hfz64_1 := blk_frozen BKz14.out 1
        have hfz64_2 := blk_frozen BKz14.out 2
        have hfz64_3 := blk_frozen BKz14.out 3
        have hfz64_4 := blk_frozen BKz14.out 4
        obtain ⟨Ao65, co65, eo65⟩ := Kd.R_slice HO_z15002.out
        subst eo65
        go_wp2
        go_loopg [13, 15] k3 (fun kq v13 v15 w' => ∃ (x13_4 : Bool) (x15_4 : Int), v13 = .bool x13_4 ∧ v15 = .int .i64 x15_4 ∧ Aside0 (columbariumlaw08_IdealClash.l2 kq tz1 tz13 x13_4 x14_3 x15_4 xz15000_1 xz15001_1 xz15002_1 xz15003_1 xz15004_1 = some r) ∧ Aside0 (kq ≤ k3) ∧ Aside0 (Kd.R k72 72 w' w.heap.size (fun _ => True) (.slice Ao65 xz15002_1.length co65) xz15002_1) ∧ Aside0 (Kd.R k74 74 w' w.heap.size (fun _ => True) uz15003 xz15003_1) ∧ Aside0 (w'.heap[gbz14]? = some (.cells #[.string xz15000_1, .int .i64 xz15001_1, (.slice Ao65 xz15002_1.length co65), uz15003, .bool xz15004_1] 50 (0, 0))) ∧ Aside0 (Below w.heap.size w w'))
        case atStart => exact ⟨(x13_3), (0), (by first | rfl | (simp; done) | (simp [*]; done)), (by first | rfl | (simp; done) | (simp [*]; done)), H', ⟨Nat.le_refl _⟩, ⟨by (with_reducible repeat (first | apply Kd.R_alloc | apply Kd.R_drewN | apply Kd.R_drew)); exact HO_z15002.out⟩, ⟨by (with_reducible repeat (first | apply Kd.R_alloc | apply Kd.R_drewN | apply Kd.R_drew)); exact HO_z15003.out⟩, ⟨by (with_reducible repeat (first | refine blk_drewN ?_ _ | refine blk_drew ?_ | refine blk_alloc ?_ _)); exact BKz14.out⟩, ⟨by repeat (first | (with_reducible first | exact HB.out | apply below_alloc | apply pw_below_drewN | apply below_drew1 | refine below_set ?_ GEz14.out) | exact HB.out)⟩⟩
        case round =>
         clear H'
         try clear c1
         try clear p1
         try clear q1
         try clear hx1
         try clear c2
         try clear p2
         try clear c3
         try clear hcv3
         try clear c4
         try clear c6
         try clear p6
         try clear p12
         try clear q12
         try clear hx12
         try clear c16
         try clear c17
         try clear c18
         try clear c20
         try clear c20b0
         try clear c20b1
         try clear c23
         try clear c23b0
         try clear c23b1
         try clear c25
         try clear hcv31
         try clear c34
         try clear c35
         try clear c39
         try clear c40
         try clear c41
         try clear c45
         try clear c45b0
         try clear c45b1
         try clear c47
         try clear c63
         try clear c63b0
         try clear p64
         try clear hcz26_0
         try clear hcz26_1
         try clear hcz26_2
         try clear hcz48_0
         try clear hcz48_1
         try clear hcz48_2
         try clear hcz64_0
         try clear hcz64_1
         try clear hcz64_2
         try clear hcz64_3
         try clear hcz64_4
         try clear hfz26_0
         try clear hfz26_1
         try clear hfz26_2
         try clear hfz48_0
         try clear hfz48_1
         try clear hfz48_2
         try clear hfz64_0
         try clear hfz64_1
         try clear hfz64_2
         try clear hfz64_3
         try clear hfz64_4
         try clear hxz15_0
         try clear hxz15_1
         try clear hxz15_2
         try clear p1
         try clear p12
         try clear pz15
         try clear p2
         try clear p6
         try clear q1
         try clear q12
         try clear qz15
         obtain ⟨x13_4, x15_4, rfl, rfl, HA, HK4, HO_z15002, HO_z15003, BKz14, HB⟩ := hrel
         cases gk with
         | zero => exact absurd HA.out (by simp [columbariumlaw08_IdealClash.l2])
         | succ k4 =>
          have H := HA.out
          clear HA
          simp only [columbariumlaw08_IdealClash.l2] at H
          by_cases c66 : x15_4 < x14_3
          rotate_left
          ·rw [if_neg c66] at H
           have c66b0 : decide (x15_4 < x14_3) = false := decide_eq_false c66
           clear c66
           have H' := am H
           clear H
           go_wp2
           go_roundg k4
           case measure => have := HK1.out; have := HJ13.out; have := HK3.out; have := HK4.out; omega
           case rel => exact ⟨(x13_4), (wrap64 (x14_3 + 1)), (by first | rfl | (simp; done) | (simp [*]; done)), (by first | rfl | (simp; done) | (simp [*]; done)), H', ⟨by have := HK1.out; have := HJ13.out; have := HK3.out; have := HK4.out; omega⟩, ⟨by (with_reducible repeat (first | apply Kd.R_alloc | apply Kd.R_drewN | apply Kd.R_drew)); exact HO_z15002.out⟩, ⟨by (with_reducible repeat (first | apply Kd.R_alloc | apply Kd.R_drewN | apply Kd.R_drew)); exact HO_z15003.out⟩, ⟨by (with_reducible repeat (first | refine blk_drewN ?_ _ | refine blk_drew ?_ | refine blk_alloc ?_ _)); exact BKz14.out⟩, ⟨by repeat (first | (with_reducible first | exact HB.out | apply below_alloc | apply pw_below_drewN | apply below_drew1 | refine below_set ?_ GEz14.out) | exact HB.out)⟩⟩
          rw [if_pos c66] at H
          have c66b0 : decide (x15_4 < x14_3) = true := decide_eq_true c66
          clear c66
          by_cases c67 : x13_4 = true
          rotate_left
          ·replace c67 := Bool.eq_false_iff.mpr c67
           subst c67
           have H1 : (if 0 ≤ x14_3 then (if x14_3 < (xz15002_1.length : Int) then (if 0 ≤ x15_4 then (if x15_4 < (xz15002_1.length : Int) then (if ((rd_T72 xz15002_1 x14_3).f0).toList = ((rd_T72 xz15002_1 x15_4).f0).toList then (none) else (columbariumlaw08_IdealClash.l2 k4 tz1 tz13 (((rd_T72 xz15002_1 x14_3).f1).toList == ((rd_T72 xz15002_1 x15_4).f1).toList) x14_3 (wrap64 (x15_4 + 1)) xz15000_1 xz15001_1 xz15002_1 xz15003_1 xz15004_1)) else (none)) else (none)) else (none)) else (none)) = some r := by rw [if_neg (show ¬ (false = true) by decide)] at H; exact H
           clear H
           have H := H1
           clear H1
           by_cases c75 : 0 ≤ x14_3
           rotate_left
           ·rw [if_neg c75] at H
            exact absurd H (by simp)
           rw [if_pos c75] at H
           have c75b0 : decide (0 ≤ x14_3) = true := decide_eq_true c75
           clear c75
           by_cases c76 : x14_3 < (xz15002_1.length : Int)
           rotate_left
           ·rw [if_neg c76] at H
            exact absurd H (by simp)
           rw [if_pos c76] at H
           have c76b0 : decide (x14_3 < (xz15002_1.length : Int)) = true := decide_eq_true c76
           clear c76
           by_cases c77 : 0 ≤ x15_4
           rotate_left
           ·rw [if_neg c77] at H
            exact absurd H (by simp)
           rw [if_pos c77] at H
           have c77b0 : decide (0 ≤ x15_4) = true := decide_eq_true c77
           clear c77
           by_cases c78 : x15_4 < (xz15002_1.length : Int)
           rotate_left
           ·rw [if_neg c78] at H
            exact absurd H (by simp)
           rw [if_pos c78] at H
           have c78b0 : decide (x15_4 < (xz15002_1.length : Int)) = true := decide_eq_true c78
           clear c78
           by_cases c79 : ((rd_T72 xz15002_1 x14_3).f0).toList = ((rd_T72 xz15002_1 x15_4).f0).toList
           ·rw [if_pos c79] at H
            exact absurd H (by simp)
           rw [if_neg c79] at H
           have c79b0 : (((rd_T72 xz15002_1 x14_3).f0).toList == ((rd_T72 xz15002_1 x15_4).f0).toList) = false := beq_eq_false_iff_ne.mpr c79
           have c79b1 : (((rd_T72 xz15002_1 x14_3).f0).toList != ((rd_T72 xz15002_1 x15_4).f0).toList) = true := bne_iff_ne.mpr c79
           have H' := am H
           clear H
           try go_wp2
           have n0_ := am (Kd.R_drew HO_z15002.out)
           have n1_ := am (Kd.R_drew HO_z15003.out)
           have n2_ := am (blk_drew BKz14.out)
           have n3_ := am (below_drew1 HB.out)
           clear HO_z15002 HO_z15003 BKz14 HB; have HO_z15002 := n0_; have HO_z15003 := n1_; have BKz14 := n2_; have HB := n3_; clear n0_ n1_ n2_ n3_
           have pz48 : 0 ≤ (x14_3 : Int) := of_decide_eq_true (by first | (with_reducible assumption) | assumption)
           have qz48 : x14_3 < (xz15002_1.length : Int) := of_decide_eq_true (by first | (with_reducible assumption) | assumption)
           obtain ⟨adz48, ez48, hxz48_0, hxz48_1⟩ := at_T72 (Kd.R_reads' HO_z15002.out).2.2 x14_3 pz48 qz48
           cases ez48
           replace pz48 := eq_true pz48
           replace qz48 := eq_true qz48
           have pz49 : 0 ≤ (x15_4 : Int) := of_decide_eq_true (by first | (with_reducible assumption) | assumption)
           have qz49 : x15_4 < (xz15002_1.length : Int) := of_decide_eq_true (by first | (with_reducible assumption) | assumption)
           obtain ⟨adz49, ez49, hxz49_0, hxz49_1⟩ := at_T72 (Kd.R_reads' HO_z15002.out).2.2 x15_4 pz49 qz49
           obtain rfl : adz48 = adz49 := (by injection ez49)
           replace pz49 := eq_true pz49
           replace qz49 := eq_true qz49
           refine start_ (n := 17) (S := fun w' => w'.cell? ⟨gbz14, 0, none⟩ = some (.string xz15000_1) ∧ w'.cell? ⟨gbz14, 1, none⟩ = some (.int .i64 xz15001_1) ∧ w'.cell? ⟨gbz14, 2, none⟩ = some (.slice (some adz48) xz15002_1.length co65) ∧ w'.cell? ⟨gbz14, 3, none⟩ = some (uz15003) ∧ w'.cell? ⟨gbz14, 4, none⟩ = some (.bool xz15004_1) ∧ w'.cell? (adz48.add ((x14_3).toNat * 2)) = some (.string ((rd_T72 xz15002_1 x14_3).f0)) ∧ w'.cell? ⟨(adz48.add ((x14_3).toNat * 2)).block, (adz48.add ((x14_3).toNat * 2)).off + 1, none⟩ = some (.string ((rd_T72 xz15002_1 x14_3).f1)) ∧ w'.cell? (adz48.add ((x15_4).toNat * 2)) = some (.string ((rd_T72 xz15002_1 x15_4).f0)) ∧ w'.cell? ⟨(adz48.add ((x15_4).toNat * 2)).block, (adz48.add ((x15_4).toNat * 2)).off + 1, none⟩ = some (.string ((rd_T72 xz15002_1 x15_4).f1))) (ds := []) #[false, false, false, false, false, false, false, false, false, false, false, false, false, false, false, false, false] (by kernel_rfl) rfl rfl ⟨(blk_cell BKz14.out 0).trans rfl, (blk_cell BKz14.out 1).trans rfl, (blk_cell BKz14.out 2).trans rfl, (blk_cell BKz14.out 3).trans rfl, (blk_cell BKz14.out 4).trans rfl, hxz48_0, hxz48_1, hxz49_0, hxz49_1⟩ (fun hHeld => ?_); refine with_tabW columbariumlaw08_IdealClash.tab20 columbariumlaw08_IdealClash.bits20 (fun HT_ HW_ => ?_)
           generalize wr.drew = w80 at HO_z15002 HO_z15003 BKz14 HB hxz48_0 hxz48_1 hxz49_0 hxz49_1 hHeld ⊢
           refine pu_ 0 (some 83) HT_ rfl rfl (by kernel_rfl) (fun _ _ _ h => h) (.inl ⟨by rfl, by intro w'; go_simp; with_reducible rfl⟩) (by simp only [Act.put, sa_, s0_, s1_, i64_w, i32_w]; rfl) ?_
           refine pu_ 1 (some 84) HT_ rfl rfl (by kernel_rfl) (fun _ _ _ h => h) (.inl ⟨by rfl, by intro w'; go_simp; with_reducible rfl⟩) (by simp only [Act.put, sa_, s0_, s1_, i64_w, i32_w]; rfl) ?_
           refine pu_ 2 (some 85) HT_ rfl rfl (by kernel_rfl) (fun _ _ _ h => h) (.inl ⟨by rfl, by intro w'; go_simp; with_reducible rfl⟩) (by simp only [Act.put, sa_, s0_, s1_, i64_w, i32_w]; rfl) ?_
           refine pu_ 4 (some 87) HT_ rfl rfl (by kernel_rfl) (fun _ _ _ h => h) (.inl ⟨by rfl, by intro w'; go_simp; with_reducible rfl⟩) (by simp only [Act.put, sa_, s0_, s1_, i64_w, i32_w]; rfl) ?_
           refine pu_ 8 (some 91) HT_ rfl rfl (by kernel_rfl) (fun _ _ _ h => h) (.inl ⟨by rfl, by intro w'; go_simp; with_reducible rfl⟩) (by simp only [Act.put, sa_, s0_, s1_, i64_w, i32_w]; rfl) ?_
           refine pu_ 10 (some 93) HT_ rfl rfl (by kernel_rfl) (fun _ _ _ h => h) (.inl ⟨by rfl, by intro w'; go_simp; with_reducible rfl⟩) (by simp only [Act.put, sa_, s0_, s1_, i64_w, i32_w]; rfl) ?_
           refine tk_ 3 (some 86) HT_ HW_ rfl rfl (by kernel_rfl) (fun _ _ _ h => h) (.inl ⟨by rfl, by rintro w' ⟨s0, s1, s2, s3, s4, s5, s6, s7, s8⟩; go_simp; with_reducible rfl⟩) hHeld (by simp only [Act.put, sa_, s0_, s1_, i64_w, i32_w]; rfl) ?_
           refine pu_ 5 (some 88) HT_ rfl rfl (by kernel_rfl) (fun _ _ _ h => h) (.inl ⟨by rfl, by intro w'; go_simp; with_reducible rfl⟩) (by simp only [Act.put, sa_, s0_, s1_, i64_w, i32_w]; rfl) ?_
           refine pu_ 6 (some 89) HT_ rfl rfl (by kernel_rfl) (fun _ _ _ h => h) (.inl ⟨by rfl, by intro w'; go_simp; with_reducible rfl⟩) (by simp only [Act.put, sa_, s0_, s1_, i64_w, i32_w]; rfl) ?_
           refine tk_ 7 (some 90) HT_ HW_ rfl rfl (by kernel_rfl) (fun _ _ _ h => h) (.inl ⟨by rfl, by rintro w' ⟨s0, s1, s2, s3, s4, s5, s6, s7, s8⟩; go_simp; with_reducible rfl⟩) hHeld (by simp only [Act.put, sa_, s0_, s1_, i64_w, i32_w]; rfl) ?_
           refine tk_ 9 (some 92) HT_ HW_ rfl rfl (by kernel_rfl) (fun _ _ _ h => h) (.inl ⟨by rfl, by rintro w' ⟨s0, s1, s2, s3, s4, s5, s6, s7, s8⟩; go_simp; with_reducible rfl⟩) hHeld (by simp only [Act.put, sa_, s0_, s1_, i64_w, i32_w]; rfl) ?_
           refine pu_ 11 (some 94) HT_ rfl rfl (by kernel_rfl) (fun _ _ _ h => h) (.inl ⟨by rfl, by intro w'; go_simp; with_reducible rfl⟩) (by simp only [Act.put, sa_, s0_, s1_, i64_w, i32_w]; rfl) ?_
           refine pu_ 12 (some 95) HT_ rfl rfl (by kernel_rfl) (fun _ _ _ h => h) (.inl ⟨by rfl, by intro w'; go_simp; with_reducible rfl⟩) (by simp only [Act.put, sa_, s0_, s1_, i64_w, i32_w]; rfl) ?_
           refine tk_ 13 (some 96) HT_ HW_ rfl rfl (by kernel_rfl) (fun _ _ _ h => h) (.inl ⟨by rfl, by rintro w' ⟨s0, s1, s2, s3, s4, s5, s6, s7, s8⟩; go_simp; with_reducible rfl⟩) hHeld (by simp only [Act.put, sa_, s0_, s1_, i64_w, i32_w]; rfl) ?_
           refine pu_ 14 (some 97) HT_ rfl rfl (by kernel_rfl) (fun _ _ _ h => h) (.inl ⟨by rfl, by intro w'; go_simp; with_reducible rfl⟩) (by simp only [Act.put, sa_, s0_, s1_, i64_w, i32_w]; rfl) ?_
           refine pu_ 15 (some 98) HT_ rfl rfl (by kernel_rfl) (fun _ _ _ h => h) (.inl ⟨by rfl, by intro w'; go_simp; with_reducible rfl⟩) (by simp only [Act.put, sa_, s0_, s1_, i64_w, i32_w]; rfl) ?_
           refine pu_ 16 (some 13) HT_ rfl rfl (by kernel_rfl) (fun _ _ _ h => h) (.inl ⟨by rfl, by intro w'; go_simp; with_reducible rfl⟩) (by simp only [Act.put, sa_, s0_, s1_, i64_w, i32_w]; rfl) ?_
           refine done_ (done_of HT_.out (by kernel_rfl)) ?_
           try go_wp2
           have n0_ := am (Kd.R_drew HO_z15002.out)
           have n1_ := am (Kd.R_drew HO_z15003.out)
           have n2_ := am (blk_drew BKz14.out)
           have n3_ := am (below_drew1 HB.out)
           clear HO_z15002 HO_z15003 BKz14 HB; have HO_z15002 := n0_; have HO_z15003 := n1_; have BKz14 := n2_; have HB := n3_; clear n0_ n1_ n2_ n3_
           have pz50 : 0 ≤ (x14_3 : Int) := of_decide_eq_true (by first | (with_reducible assumption) | assumption)
           have qz50 : x14_3 < (xz15002_1.length : Int) := of_decide_eq_true (by first | (with_reducible assumption) | assumption)
           obtain ⟨adz50, ez50, hxz50_0, hxz50_1⟩ := at_T72 (Kd.R_reads' HO_z15002.out).2.2 x14_3 pz50 qz50
           obtain rfl : adz48 = adz50 := (by injection ez50)
           replace pz50 := eq_true pz50
           replace qz50 := eq_true qz50
           have pz51 : 0 ≤ (x15_4 : Int) := of_decide_eq_true (by first | (with_reducible assumption) | assumption)
           have qz51 : x15_4 < (xz15002_1.length : Int) := of_decide_eq_true (by first | (with_reducible assumption) | assumption)
           obtain ⟨adz51, ez51, hxz51_0, hxz51_1⟩ := at_T72 (Kd.R_reads' HO_z15002.out).2.2 x15_4 pz51 qz51
           obtain rfl : adz48 = adz51 := (by injection ez51)
           replace pz51 := eq_true pz51
           replace qz51 := eq_true qz51
           refine start_ (n := 13) (S := fun w' => w'.cell? ⟨gbz14, 0, none⟩ = some (.string xz15000_1) ∧ w'.cell? ⟨gbz14, 1, none⟩ = some (.int .i64 xz15001_1) ∧ w'.cell? ⟨gbz14, 2, none⟩ = some (.slice (some adz48) xz15002_1.length co65) ∧ w'.cell? ⟨gbz14, 3, none⟩ = some (uz15003) ∧ w'.cell? ⟨gbz14, 4, none⟩ = some (.bool xz15004_1) ∧ w'.cell? (adz48.add ((x14_3).toNat * 2)) = some (.string ((rd_T72 xz15002_1 x14_3).f0)) ∧ w'.cell? ⟨(adz48.add ((x14_3).toNat * 2)).block, (adz48.add ((x14_3).toNat * 2)).off + 1, none⟩ = some (.string ((rd_T72 xz15002_1 x14_3).f1)) ∧ w'.cell? (adz48.add ((x15_4).toNat * 2)) = some (.string ((rd_T72 xz15002_1 x15_4).f0)) ∧ w'.cell? ⟨(adz48.add ((x15_4).toNat * 2)).block, (adz48.add ((x15_4).toNat * 2)).off + 1, none⟩ = some (.string ((rd_T72 xz15002_1 x15_4).f1))) (ds := []) #[false, false, false, false, false, false, false, false, false, false, false, false, false] (by kernel_rfl) rfl rfl ⟨(blk_cell BKz14.out 0).trans rfl, (blk_cell BKz14.out 1).trans rfl, (blk_cell BKz14.out 2).trans rfl, (blk_cell BKz14.out 3).trans rfl, (blk_cell BKz14.out 4).trans rfl, hxz50_0, hxz50_1, hxz51_0, hxz51_1⟩ (fun hHeld => ?_); refine with_tabW columbariumlaw08_IdealClash.tab21 columbariumlaw08_IdealClash.bits21 (fun HT_ HW_ => ?_)
           generalize w80.drew = w81 at HO_z15002 HO_z15003 BKz14 HB hxz50_0 hxz50_1 hxz51_0 hxz51_1 hHeld ⊢
           refine pu_ 0 (some 99) HT_ rfl rfl (by kernel_rfl) (fun _ _ _ h => h) (.inl ⟨by rfl, by intro w'; go_simp; with_reducible rfl⟩) (by simp only [Act.put, sa_, s0_, s1_, i64_w, i32_w]; rfl) ?_
           refine pu_ 2 (some 101) HT_ rfl rfl (by kernel_rfl) (fun _ _ _ h => h) (.inl ⟨by rfl, by intro w'; go_simp; with_reducible rfl⟩) (by simp only [Act.put, sa_, s0_, s1_, i64_w, i32_w]; rfl) ?_
           refine pu_ 6 (some 105) HT_ rfl rfl (by kernel_rfl) (fun _ _ _ h => h) (.inl ⟨by rfl, by intro w'; go_simp; with_reducible rfl⟩) (by simp only [Act.put, sa_, s0_, s1_, i64_w, i32_w]; rfl) ?_
           refine pu_ 8 (some 107) HT_ rfl rfl (by kernel_rfl) (fun _ _ _ h => h) (.inl ⟨by rfl, by intro w'; go_simp; with_reducible rfl⟩) (by simp only [Act.put, sa_, s0_, s1_, i64_w, i32_w]; rfl) ?_
           refine tk_ 1 (some 100) HT_ HW_ rfl rfl (by kernel_rfl) (fun _ _ _ h => h) (.inl ⟨by rfl, by rintro w' ⟨s0, s1, s2, s3, s4, s5, s6, s7, s8⟩; go_simp; with_reducible rfl⟩) hHeld (by simp only [Act.put, sa_, s0_, s1_, i64_w, i32_w]; rfl) ?_
           refine pu_ 3 (some 102) HT_ rfl rfl (by kernel_rfl) (fun _ _ _ h => h) (.inl ⟨by rfl, by intro w'; go_simp; with_reducible rfl⟩) (by simp only [Act.put, sa_, s0_, s1_, i64_w, i32_w]; rfl) ?_
           refine pu_ 4 (some 103) HT_ rfl rfl (by kernel_rfl) (fun _ _ _ h => h) (.inl ⟨by rfl, by intro w'; go_simp; with_reducible rfl⟩) (by simp only [Act.put, sa_, s0_, s1_, i64_w, i32_w]; rfl) ?_
           refine tk_ 5 (some 104) HT_ HW_ rfl rfl (by kernel_rfl) (fun _ _ _ h => h) (.inl ⟨by rfl, by rintro w' ⟨s0, s1, s2, s3, s4, s5, s6, s7, s8⟩; go_simp; with_reducible rfl⟩) hHeld (by simp only [Act.put, sa_, s0_, s1_, i64_w, i32_w]; rfl) ?_
           refine tk_ 7 (some 106) HT_ HW_ rfl rfl (by kernel_rfl) (fun _ _ _ h => h) (.inl ⟨by rfl, by rintro w' ⟨s0, s1, s2, s3, s4, s5, s6, s7, s8⟩; go_simp; with_reducible rfl⟩) hHeld (by simp only [Act.put, sa_, s0_, s1_, i64_w, i32_w]; rfl) ?_
           refine pu_ 9 (some 108) HT_ rfl rfl (by kernel_rfl) (fun _ _ _ h => h) (.inl ⟨by rfl, by intro w'; go_simp; with_reducible rfl⟩) (by simp only [Act.put, sa_, s0_, s1_, i64_w, i32_w]; rfl) ?_
           refine pu_ 10 (some 109) HT_ rfl rfl (by kernel_rfl) (fun _ _ _ h => h) (.inl ⟨by rfl, by intro w'; go_simp; with_reducible rfl⟩) (by simp only [Act.put, sa_, s0_, s1_, i64_w, i32_w]; rfl) ?_
           refine tk_ 11 (some 110) HT_ HW_ rfl rfl (by kernel_rfl) (fun _ _ _ h => h) (.inl ⟨by rfl, by rintro w' ⟨s0, s1, s2, s3, s4, s5, s6, s7, s8⟩; go_simp; with_reducible rfl⟩) hHeld (by simp only [Act.put, sa_, s0_, s1_, i64_w, i32_w]; rfl) ?_
           refine pu_ 12 (some 111) HT_ rfl rfl (by kernel_rfl) (fun _ _ _ h => h) (.inl ⟨by rfl, by intro w'; go_simp; with_reducible rfl⟩) (by simp only [Act.put, sa_, s0_, s1_, i64_w, i32_w]; rfl) ?_
           refine done_ (done_of HT_.out (by kernel_rfl)) ?_
           try go_wp2
           go_roundg k4
           case measure => have := HK1.out; have := HJ13.out; have := HK3.out; have := HK4.out; omega
           case rel => exact ⟨((((rd_T72 xz15002_1 x14_3).f1).toList == ((rd_T72 xz15002_1 x15_4).f1).toList)), (wrap64 (x15_4 + 1)), (by first | rfl | (simp; done) | (simp [*]; done)), (by first | rfl | (simp; done) | (simp [*]; done)), H', ⟨by have := HK1.out; have := HJ13.out; have := HK3.out; have := HK4.out; omega⟩, ⟨by (with_reducible repeat (first | apply Kd.R_alloc | apply Kd.R_drewN | apply Kd.R_drew)); exact HO_z15002.out⟩, ⟨by (with_reducible repeat (first | apply Kd.R_alloc | apply Kd.R_drewN | apply Kd.R_drew)); exact HO_z15003.out⟩, ⟨by (with_reducible repeat (first | refine blk_drewN ?_ _ | refine blk_drew ?_ | refine blk_alloc ?_ _)); exact BKz14.out⟩, ⟨by repeat (first | (with_reducible first | exact HB.out | apply below_alloc | apply pw_below_drewN | apply below_drew1 | refine below_set ?_ GEz14.out) | exact HB.out)⟩⟩
          subst c67
          have H1 : (if 0 ≤ x14_3 then (if x14_3 < (xz15002_1.length : Int) then (if 0 ≤ x15_4 then (if x15_4 < (xz15002_1.length : Int) then (if ((rd_T72 xz15002_1 x14_3).f0).toList = ((rd_T72 xz15002_1 x15_4).f0).toList then (none) else (columbariumlaw08_IdealClash.l2 k4 tz1 tz13 true x14_3 (wrap64 (x15_4 + 1)) xz15000_1 xz15001_1 xz15002_1 xz15003_1 xz15004_1)) else (none)) else (none)) else (none)) else (none)) = some r := by rw [if_pos rfl] at H; exact H
          clear H
          have H := H1
          clear H1
          by_cases c68 : 0 ≤ x14_3
          rotate_left
          ·rw [if_neg c68] at H
           exact absurd H (by simp)
          rw [if_pos c68] at H
          have c68b0 : decide (0 ≤ x14_3) = true := decide_eq_true c68
          clear c68
          by_cases c69 : x14_3 < (xz15002_1.length : Int)
          rotate_left
          ·rw [if_neg c69] at H
           exact absurd H (by simp)
          rw [if_pos c69] at H
          have c69b0 : decide (x14_3 < (xz15002_1.length : Int)) = true := decide_eq_true c69
          clear c69
          by_cases c70 : 0 ≤ x15_4
          rotate_left
          ·rw [if_neg c70] at H
           exact absurd H (by simp)
          rw [if_pos c70] at H
          have c70b0 : decide (0 ≤ x15_4) = true := decide_eq_true c70
          clear c70
          by_cases c71 : x15_4 < (xz15002_1.length : Int)
          rotate_left
          ·rw [if_neg c71] at H
           exact absurd H (by simp)
          rw [if_pos c71] at H
          have c71b0 : decide (x15_4 < (xz15002_1.length : Int)) = true := decide_eq_true c71
          clear c71
          by_cases c72 : ((rd_T72 xz15002_1 x14_3).f0).toList = ((rd_T72 xz15002_1 x15_4).f0).toList
          ·rw [if_pos c72] at H
           exact absurd H (by simp)
          rw [if_neg c72] at H
          have c72b0 : (((rd_T72 xz15002_1 x14_3).f0).toList == ((rd_T72 xz15002_1 x15_4).f0).toList) = false := beq_eq_false_iff_ne.mpr c72
          have c72b1 : (((rd_T72 xz15002_1 x14_3).f0).toList != ((rd_T72 xz15002_1 x15_4).f0).toList) = true := bne_iff_ne.mpr c72
          have H' := am H
          clear H
          try go_wp2
          have n0_ := am (Kd.R_drew HO_z15002.out)
          have n1_ := am (Kd.R_drew HO_z15003.out)
          have n2_ := am (blk_drew BKz14.out)
          have n3_ := am (below_drew1 HB.out)
          clear HO_z15002 HO_z15003 BKz14 HB; have HO_z15002 := n0_; have HO_z15003 := n1_; have BKz14 := n2_; have HB := n3_; clear n0_ n1_ n2_ n3_
          refine start_ (n := 17) (S := fun w' => True) (ds := []) #[false, false, false, false, false, false, false, false, false, false, false, false, false, false, false, false, false] (by kernel_rfl) rfl rfl trivial (fun hHeld => ?_); refine with_tabW columbariumlaw08_IdealClash.tab20 columbariumlaw08_IdealClash.bits20 (fun HT_ HW_ => ?_)
          generalize wr.drew = w73 at HO_z15002 HO_z15003 BKz14 HB hHeld ⊢
          refine pu_ 0 (some 83) HT_ rfl rfl (by kernel_rfl) (fun _ _ _ h => h) (.inl ⟨by rfl, by intro w'; go_simp; with_reducible rfl⟩) (by simp only [Act.put, sa_, s0_, s1_, i64_w, i32_w]; rfl) ?_
          refine pu_ 1 (some 84) HT_ rfl rfl (by kernel_rfl) (fun _ _ _ h => h) (.inl ⟨by rfl, by intro w'; go_simp; with_reducible rfl⟩) (by simp only [Act.put, sa_, s0_, s1_, i64_w, i32_w]; rfl) ?_
          refine pure_ (i := 2) (N := some 85) (v := undef) (a' := ?_) #[true, true, true, false, false, false, false, false, false, false, false, false, false, false, false, false, false] rfl rfl (any_of HT_.out (by kernel_rfl)) (fun _ _ _ h => h) (Or.inr ⟨by rfl, rfl⟩) ?_ ?_
          rotate_left
          ·simp only [Act.put, List.setIfInBounds_toArray, List.set_cons_zero, List.set_cons_succ, i64_w, i32_w]
           rfl
          refine pure_ (i := 3) (N := some 86) (v := undef) (a' := ?_) #[true, true, true, true, false, false, false, false, false, false, false, false, false, false, false, false, false] rfl rfl (any_of HT_.out (by kernel_rfl)) (fun _ _ _ h => h) (Or.inr ⟨by rfl, rfl⟩) ?_ ?_
          rotate_left
          ·simp only [Act.put, List.setIfInBounds_toArray, List.set_cons_zero, List.set_cons_succ, i64_w, i32_w]
           rfl
          refine pure_ (i := 4) (N := some 87) (v := undef) (a' := ?_) #[true, true, true, true, true, false, false, false, false, false, false, false, false, false, false, false, false] rfl rfl (any_of HT_.out (by kernel_rfl)) (fun _ _ _ h => h) (Or.inr ⟨by rfl, rfl⟩) ?_ ?_
          rotate_left
          ·simp only [Act.put, List.setIfInBounds_toArray, List.set_cons_zero, List.set_cons_succ, i64_w, i32_w]
           rfl
          refine pure_ (i := 5) (N := some 88) (v := undef) (a' := ?_) #[true, true, true, true, true, true, false, false, false, false, false, false, false, false, false, false, false] rfl rfl (any_of HT_.out (by kernel_rfl)) (fun _ _ _ h => h) (Or.inr ⟨by rfl, rfl⟩) ?_ ?_
          rotate_left
          ·simp only [Act.put, List.setIfInBounds_toArray, List.set_cons_zero, List.set_cons_succ, i64_w, i32_w]
           rfl
          refine pure_ (i := 6) (N := some 89) (v := undef) (a' := ?_) #[true, true, true, true, true, true, true, false, false, false, false, false, false, false, false, false, false] rfl rfl (any_of HT_.out (by kernel_rfl)) (fun _ _ _ h => h) (Or.inr ⟨by rfl, rfl⟩) ?_ ?_
          rotate_left
          ·simp only [Act.put, List.setIfInBounds_toArray, List.set_cons_zero, List.set_cons_succ, i64_w, i32_w]
           rfl
          refine pure_ (i := 7) (N := some 90) (v := undef) (a' := ?_) #[true, true, true, true, true, true, true, true, false, false, false, false, false, false, false, false, false] rfl rfl (any_of HT_.out (by kernel_rfl)) (fun _ _ _ h => h) (Or.inr ⟨by rfl, rfl⟩) ?_ ?_
          rotate_left
          ·simp only [Act.put, List.setIfInBounds_toArray, List.set_cons_zero, List.set_cons_succ, i64_w, i32_w]
           rfl
          refine pure_ (i := 8) (N := some 91) (v := undef) (a' := ?_) #[true, true, true, true, true, true, true, true, true, false, false, false, false, false, false, false, false] rfl rfl (any_of HT_.out (by kernel_rfl)) (fun _ _ _ h => h) (Or.inr ⟨by rfl, rfl⟩) ?_ ?_
          rotate_left
          ·simp only [Act.put, List.setIfInBounds_toArray, List.set_cons_zero, List.set_cons_succ, i64_w, i32_w]
           rfl
          refine pure_ (i := 9) (N := some 92) (v := undef) (a' := ?_) #[true, true, true, true, true, true, true, true, true, true, false, false, false, false, false, false, false] rfl rfl (any_of HT_.out (by kernel_rfl)) (fun _ _ _ h => h) (Or.inr ⟨by rfl, rfl⟩) ?_ ?_
          rotate_left
          ·simp only [Act.put, List.setIfInBounds_toArray, List.set_cons_zero, List.set_cons_succ, i64_w, i32_w]
           rfl
          refine pure_ (i := 10) (N := some 93) (v := undef) (a' := ?_) #[true, true, true, true, true, true, true, true, true, true, true, false, false, false, false, false, false] rfl rfl (any_of HT_.out (by kernel_rfl)) (fun _ _ _ h => h) (Or.inr ⟨by rfl, rfl⟩) ?_ ?_
          rotate_left
          ·simp only [Act.put, List.setIfInBounds_toArray, List.set_cons_zero, List.set_cons_succ, i64_w, i32_w]
           rfl
          refine pure_ (i := 11) (N := some 94) (v := undef) (a' := ?_) #[true, true, true, true, true, true, true, true, true, true, true, true, false, false, false, false, false] rfl rfl (any_of HT_.out (by kernel_rfl)) (fun _ _ _ h => h) (Or.inr ⟨by rfl, rfl⟩) ?_ ?_
          rotate_left
          ·simp only [Act.put, List.setIfInBounds_toArray, List.set_cons_zero, List.set_cons_succ, i64_w, i32_w]
           rfl
          refine pure_ (i := 12) (N := some 95) (v := undef) (a' := ?_) #[true, true, true, true, true, true, true, true, true, true, true, true, true, false, false, false, false] rfl rfl (any_of HT_.out (by kernel_rfl)) (fun _ _ _ h => h) (Or.inr ⟨by rfl, rfl⟩) ?_ ?_
          rotate_left
          ·simp only [Act.put, List.setIfInBounds_toArray, List.set_cons_zero, List.set_cons_succ, i64_w, i32_w]
           rfl
          refine pure_ (i := 13) (N := some 96) (v := undef) (a' := ?_) #[true, true, true, true, true, true, true, true, true, true, true, true, true, true, false, false, false] rfl rfl (any_of HT_.out (by kernel_rfl)) (fun _ _ _ h => h) (Or.inr ⟨by rfl, rfl⟩) ?_ ?_
          rotate_left
          ·simp only [Act.put, List.setIfInBounds_toArray, List.set_cons_zero, List.set_cons_succ, i64_w, i32_w]
           rfl
          refine pure_ (i := 14) (N := some 97) (v := undef) (a' := ?_) #[true, true, true, true, true, true, true, true, true, true, true, true, true, true, true, false, false] rfl rfl (any_of HT_.out (by kernel_rfl)) (fun _ _ _ h => h) (Or.inr ⟨by rfl, rfl⟩) ?_ ?_
          rotate_left
          ·simp only [Act.put, List.setIfInBounds_toArray, List.set_cons_zero, List.set_cons_succ, i64_w, i32_w]
           rfl
          refine pu_ 15 (some 98) HT_ rfl rfl (by kernel_rfl) (fun _ _ _ h => h) (.inl ⟨by rfl, by intro w'; go_simp; with_reducible rfl⟩) (by simp only [Act.put, sa_, s0_, s1_, i64_w, i32_w]; rfl) ?_
          refine pu_ 16 (some 13) HT_ rfl rfl (by kernel_rfl) (fun _ _ _ h => h) (.inl ⟨by rfl, by intro w'; go_simp; with_reducible rfl⟩) (by simp only [Act.put, sa_, s0_, s1_, i64_w, i32_w]; rfl) ?_
          refine done_ (done_of HT_.out (by kernel_rfl)) ?_
          try go_wp2
          have n0_ := am (Kd.R_drew HO_z15002.out)
          have n1_ := am (Kd.R_drew HO_z15003.out)
          have n2_ := am (blk_drew BKz14.out)
          have n3_ := am (below_drew1 HB.out)
          clear HO_z15002 HO_z15003 BKz14 HB; have HO_z15002 := n0_; have HO_z15003 := n1_; have BKz14 := n2_; have HB := n3_; clear n0_ n1_ n2_ n3_
          have pz46 : 0 ≤ (x14_3 : Int) := of_decide_eq_true (by first | (with_reducible assumption) | assumption)
          have qz46 : x14_3 < (xz15002_1.length : Int) := of_decide_eq_true (by first | (with_reducible assumption) | assumption)
          obtain ⟨adz46, ez46, hxz46_0, hxz46_1⟩ := at_T72 (Kd.R_reads' HO_z15002.out).2.2 x14_3 pz46 qz46
          cases ez46
          replace pz46 := eq_true pz46
          replace qz46 := eq_true qz46
          have pz47 : 0 ≤ (x15_4 : Int) := of_decide_eq_true (by first | (with_reducible assumption) | assumption)
          have qz47 : x15_4 < (xz15002_1.length : Int) := of_decide_eq_true (by first | (with_reducible assumption) | assumption)
          obtain ⟨adz47, ez47, hxz47_0, hxz47_1⟩ := at_T72 (Kd.R_reads' HO_z15002.out).2.2 x15_4 pz47 qz47
          obtain rfl : adz46 = adz47 := (by injection ez47)
          replace pz47 := eq_true pz47
          replace qz47 := eq_true qz47
          refine start_ (n := 13) (S := fun w' => w'.cell? ⟨gbz14, 0, none⟩ = some (.string xz15000_1) ∧ w'.cell? ⟨gbz14, 1, none⟩ = some (.int .i64 xz15001_1) ∧ w'.cell? ⟨gbz14, 2, none⟩ = some (.slice (some adz46) xz15002_1.length co65) ∧ w'.cell? ⟨gbz14, 3, none⟩ = some (uz15003) ∧ w'.cell? ⟨gbz14, 4, none⟩ = some (.bool xz15004_1) ∧ w'.cell? (adz46.add ((x14_3).toNat * 2)) = some (.string ((rd_T72 xz15002_1 x14_3).f0)) ∧ w'.cell? ⟨(adz46.add ((x14_3).toNat * 2)).block, (adz46.add ((x14_3).toNat * 2)).off + 1, none⟩ = some (.string ((rd_T72 xz15002_1 x14_3).f1)) ∧ w'.cell? (adz46.add ((x15_4).toNat * 2)) = some (.string ((rd_T72 xz15002_1 x15_4).f0)) ∧ w'.cell? ⟨(adz46.add ((x15_4).toNat * 2)).block, (adz46.add ((x15_4).toNat * 2)).off + 1, none⟩ = some (.string ((rd_T72 xz15002_1 x15_4).f1))) (ds := []) #[false, false, false, false, false, false, false, false, false, false, false, false, false] (by kernel_rfl) rfl rfl ⟨(blk_cell BKz14.out 0).trans rfl, (blk_cell BKz14.out 1).trans rfl, (blk_cell BKz14.out 2).trans rfl, (blk_cell BKz14.out 3).trans rfl, (blk_cell BKz14.out 4).trans rfl, hxz46_0, hxz46_1, hxz47_0, hxz47_1⟩ (fun hHeld => ?_); refine with_tabW columbariumlaw08_IdealClash.tab21 columbariumlaw08_IdealClash.bits21 (fun HT_ HW_ => ?_)
          generalize w73.drew = w74 at HO_z15002 HO_z15003 BKz14 HB hxz46_0 hxz46_1 hxz47_0 hxz47_1 hHeld ⊢
          refine pu_ 0 (some 99) HT_ rfl rfl (by kernel_rfl) (fun _ _ _ h => h) (.inl ⟨by rfl, by intro w'; go_simp; with_reducible rfl⟩) (by simp only [Act.put, sa_, s0_, s1_, i64_w, i32_w]; rfl) ?_
          refine pu_ 2 (some 101) HT_ rfl rfl (by kernel_rfl) (fun _ _ _ h => h) (.inl ⟨by rfl, by intro w'; go_simp; with_reducible rfl⟩) (by simp only [Act.put, sa_, s0_, s1_, i64_w, i32_w]; rfl) ?_
          refine pu_ 6 (some 105) HT_ rfl rfl (by kernel_rfl) (fun _ _ _ h => h) (.inl ⟨by rfl, by intro w'; go_simp; with_reducible rfl⟩) (by simp only [Act.put, sa_, s0_, s1_, i64_w, i32_w]; rfl) ?_
          refine pu_ 8 (some 107) HT_ rfl rfl (by kernel_rfl) (fun _ _ _ h => h) (.inl ⟨by rfl, by intro w'; go_simp; with_reducible rfl⟩) (by simp only [Act.put, sa_, s0_, s1_, i64_w, i32_w]; rfl) ?_
          refine tk_ 1 (some 100) HT_ HW_ rfl rfl (by kernel_rfl) (fun _ _ _ h => h) (.inl ⟨by rfl, by rintro w' ⟨s0, s1, s2, s3, s4, s5, s6, s7, s8⟩; go_simp; with_reducible rfl⟩) hHeld (by simp only [Act.put, sa_, s0_, s1_, i64_w, i32_w]; rfl) ?_
          refine pu_ 3 (some 102) HT_ rfl rfl (by kernel_rfl) (fun _ _ _ h => h) (.inl ⟨by rfl, by intro w'; go_simp; with_reducible rfl⟩) (by simp only [Act.put, sa_, s0_, s1_, i64_w, i32_w]; rfl) ?_
          refine pu_ 4 (some 103) HT_ rfl rfl (by kernel_rfl) (fun _ _ _ h => h) (.inl ⟨by rfl, by intro w'; go_simp; with_reducible rfl⟩) (by simp only [Act.put, sa_, s0_, s1_, i64_w, i32_w]; rfl) ?_
          refine tk_ 5 (some 104) HT_ HW_ rfl rfl (by kernel_rfl) (fun _ _ _ h => h) (.inl ⟨by rfl, by rintro w' ⟨s0, s1, s2, s3, s4, s5, s6, s7, s8⟩; go_simp; with_reducible rfl⟩) hHeld (by simp only [Act.put, sa_, s0_, s1_, i64_w, i32_w]; rfl) ?_
          refine tk_ 7 (some 106) HT_ HW_ rfl rfl (by kernel_rfl) (fun _ _ _ h => h) (.inl ⟨by rfl, by rintro w' ⟨s0, s1, s2, s3, s4, s5, s6, s7, s8⟩; go_simp; with_reducible rfl⟩) hHeld (by simp only [Act.put, sa_, s0_, s1_, i64_w, i32_w]; rfl) ?_
          refine pu_ 9 (some 108) HT_ rfl rfl (by kernel_rfl) (fun _ _ _ h => h) (.inl ⟨by rfl, by intro w'; go_simp; with_reducible rfl⟩) (by simp only [Act.put, sa_, s0_, s1_, i64_w, i32_w]; rfl) ?_
          refine pu_ 10 (some 109) HT_ rfl rfl (by kernel_rfl) (fun _ _ _ h => h) (.inl ⟨by rfl, by intro w'; go_simp; with_reducible rfl⟩) (by simp only [Act.put, sa_, s0_, s1_, i64_w, i32_w]; rfl) ?_
          refine tk_ 11 (some 110) HT_ HW_ rfl rfl (by kernel_rfl) (fun _ _ _ h => h) (.inl ⟨by rfl, by rintro w' ⟨s0, s1, s2, s3, s4, s5, s6, s7, s8⟩; go_simp; with_reducible rfl⟩) hHeld (by simp only [Act.put, sa_, s0_, s1_, i64_w, i32_w]; rfl) ?_
          refine pu_ 12 (some 111) HT_ rfl rfl (by kernel_rfl) (fun _ _ _ h => h) (.inl ⟨by rfl, by intro w'; go_simp; with_reducible rfl⟩) (by simp only [Act.put, sa_, s0_, s1_, i64_w, i32_w]; rfl) ?_
          refine done_ (done_of HT_.out (by kernel_rfl)) ?_
          try go_wp2
          go_roundg k4
          case measure => have := HK1.out; have := HJ13.out; have := HK3.out; have := HK4.out; omega
          case rel => exact ⟨(true), (wrap64 (x15_4 + 1)), (by first | rfl | (simp; done) | (simp [*]; done)), (by first | rfl | (simp; done) | (simp [*]; done)), H', ⟨by have := HK1.out; have := HJ13.out; have := HK3.out; have := HK4.out; omega⟩, ⟨by (with_reducible repeat (first | apply Kd.R_alloc | apply Kd.R_drewN | apply Kd.R_drew)); exact HO_z15002.out⟩, ⟨by (with_reducible repeat (first | apply Kd.R_alloc | apply Kd.R_drewN | apply Kd.R_drew)); exact HO_z15003.out⟩, ⟨by (with_reducible repeat (first | refine blk_drewN ?_ _ | refine blk_drew ?_ | refine blk_alloc ?_ _)); exact BKz14.out⟩, ⟨by repeat (first | (with_reducible first | exact HB.out | apply below_alloc | apply pw_below_drewN | apply below_drew1 | refine below_set ?_ GEz14.out) | exact HB.out)⟩⟩
       rw [if_neg c63] at H
       have c63b0 : decide (x14_3 < (xz15002_1.length : Int)) = false := decide_eq_false c63
       clear c63
       have H' := am H
       clear H
       have hcz82_0 : wr.cell? ⟨gbz14, 0, none⟩ = some (.string xz15000_1) := (blk_cell BKz14.out 0).trans rfl
       have hcz82_1 : wr.cell? ⟨gbz14, 1, none⟩ = some (.int .i64 xz15001_1) := (blk_cell BKz14.out 1).trans rfl
       have hcz82_2 : wr.cell? ⟨gbz14, 2, none⟩ = some (uz15002) := (blk_cell BKz14.out 2).trans rfl
       have hcz82_3 : wr.cell? ⟨gbz14, 3, none⟩ = some (uz15003) := (blk_cell BKz14.out 3).trans rfl
       have hcz82_4 : wr.cell? ⟨gbz14, 4, none⟩ = some (.bool xz15004_1) := (blk_cell BKz14.out 4).trans rfl
       have hfz82_0 := blk_frozen BKz14.out 0
       have hfz82_1 := blk_frozen BKz14.out 1
       have hfz82_2 := blk_frozen BKz14.out 2
       have hfz82_3 := blk_frozen BKz14.out 3
       have hfz82_4 := blk_frozen BKz14.out 4
       obtain ⟨Ao83, co83, eo83⟩ := Kd.R_slice HO_z15002.out
       subst eo83
       go_wp2
       go_loopg [13, 16] k3 (fun kq v13 v16 w' => ∃ (x13_4 : Bool) (x16_4 : Int), v13 = .bool x13_4 ∧ v16 = .int .i64 x16_4 ∧ Aside0 (columbariumlaw08_IdealClash.l3 kq tz1 tz13 x13_4 x16_4 xz15000_1 xz15001_1 xz15002_1 xz15003_1 xz15004_1 = some r) ∧ Aside0 (kq ≤ k3) ∧ Aside0 (Kd.R k72 72 w' w.heap.size (fun _ => True) (.slice Ao83 xz15002_1.length co83) xz15002_1) ∧ Aside0 (Kd.R k74 74 w' w.heap.size (fun _ => True) uz15003 xz15003_1) ∧ Aside0 (w'.heap[gbz14]? = some (.cells #[.string xz15000_1, .int .i64 xz15001_1, (.slice Ao83 xz15002_1.length co83), uz15003, .bool xz15004_1] 50 (0, 0))) ∧ Aside0 (Below w.heap.size w w'))
       case atStart => exact ⟨(x13_3), (0), (by first | rfl | (simp; done) | (simp [*]; done)), (by first | rfl | (simp; done) | (simp [*]; done)), H', ⟨Nat.le_refl _⟩, ⟨by (with_reducible repeat (first | apply Kd.R_alloc | apply Kd.R_drewN | apply Kd.R_drew)); exact HO_z15002.out⟩, ⟨by (with_reducible repeat (first | apply Kd.R_alloc | apply Kd.R_drewN | apply Kd.R_drew)); exact HO_z15003.out⟩, ⟨by (with_reducible repeat (first | refine blk_drewN ?_ _ | refine blk_drew ?_ | refine blk_alloc ?_ _)); exact BKz14.out⟩, ⟨by repeat (first | (with_reducible first | exact HB.out | apply below_alloc | apply pw_below_drewN | apply below_drew1 | refine below_set ?_ GEz14.out) | exact HB.out)⟩⟩
       case round =>
        clear H'
        try clear p1
        try clear q1
        try clear hx1
        try clear p2
        try clear c6
        try clear p6
        try clear c7
        try clear p12
        try clear q12
        try clear hx12
        try clear c63
        try clear c63b0
        try clear p64
        try clear c66
        try clear c66b0
        try clear c67
        try clear c68
        try clear c69
        try clear c70
        try clear c71
        try clear c75
        try clear c75b0
        try clear c76
        try clear c76b0
        try clear c77
        try clear c77b0
        try clear c78
        try clear c78b0
        try clear c79
        try clear c79b0
        try clear c79b1
        try clear hcz82_0
        try clear hcz82_1
        try clear hcz82_2
        try clear hcz82_3
        try clear hcz82_4
        try clear hfz82_0
        try clear hfz82_1
        try clear hfz82_2
        try clear hfz82_3
        try clear hfz82_4
        try clear hxz46_0
        try clear hxz46_1
        try clear hxz47_0
        try clear hxz47_1
        try clear hxz48_0
        try clear hxz48_1
        try clear hxz49_0
        try clear hxz49_1
        try clear hxz50_0
        try clear hxz50_1
        try clear hxz51_0
        try clear hxz51_1
        try clear pz46
        try clear pz47
        try clear pz48
        try clear pz49
        try clear pz50
        try clear pz51
        try clear qz46
        try clear qz47
        try clear qz48
        try clear qz49
        try clear qz50
        try clear qz51
        obtain ⟨x13_4, x16_4, rfl, rfl, HA, HK4, HO_z15002, HO_z15003, BKz14, HB⟩ := hrel
        cases gk with
        | zero => exact absurd HA.out (by simp [columbariumlaw08_IdealClash.l3])
        | succ k4 =>
         have H := HA.out
         clear HA
         simp only [columbariumlaw08_IdealClash.l3] at H
         by_cases c84 : x16_4 < (xz15003_1.length : Int)
         rotate_left
         ·rw [if_neg c84] at H
          have c84b0 : decide (x16_4 < (xz15003_1.length : Int)) = false := decide_eq_false c84
          clear c84
          by_cases c109 : tz1 = true
          rotate_left
          ·replace c109 := Bool.eq_false_iff.mpr c109
           subst c109
           have H1 : (none) = some r := by rw [if_neg (show ¬ (false = true) by decide)] at H; exact H
           clear H
           have H := H1
           clear H1
           exact absurd H (by simp)
          subst c109
          have H1 : (if tz13 = 0 then (if (xz15004_1 == x13_4) = true then (some (xz15001_1 == (wrap64 ((wrap64 (16 * (xz15002_1.length : Int))) + (wrap64 (40 * (xz15003_1.length : Int))))))) else (none)) else (none)) = some r := by rw [if_pos rfl] at H; exact H
          clear H
          have H := H1
          clear H1
          by_cases c110 : tz13 = 0
          rotate_left
          ·rw [if_neg c110] at H
           exact absurd H (by simp)
          rw [if_pos c110] at H
          have c110b0 : (tz13 == 0) = true := beq_iff_eq.mpr c110
          have c110b1 : (tz13 != 0) = false := bne_eq_false_iff_eq.mpr c110
          clear c110
          by_cases c111 : (xz15004_1 == x13_4) = true
          rotate_left
          ·rw [if_neg c111] at H
           exact absurd H (by simp)
          rw [if_pos c111] at H
          have c111b0 : (xz15004_1 == x13_4) = true := c111
          (try (have c111b1 : decide (xz15004_1 = x13_4) = true := by simpa using c111))
          (try (have c111b2 : (xz15004_1 == x13_4) = true := by simpa using c111))
          clear c111
          obtain rfl := Option.some.inj H
          have hcz112_0 : wr.cell? ⟨gbz14, 0, none⟩ = some (.string xz15000_1) := (blk_cell BKz14.out 0).trans rfl
          have hcz112_1 : wr.cell? ⟨gbz14, 1, none⟩ = some (.int .i64 xz15001_1) := (blk_cell BKz14.out 1).trans rfl
          have hcz112_2 : wr.cell? ⟨gbz14, 2, none⟩ = some (.slice Ao83 xz15002_1.length co83) := (blk_cell BKz14.out 2).trans rfl
          have hcz112_3 : wr.cell? ⟨gbz14, 3, none⟩ = some (uz15003) := (blk_cell BKz14.out 3).trans rfl
          have hcz112_4 : wr.cell? ⟨gbz14, 4, none⟩ = some (.bool xz15004_1) := (blk_cell BKz14.out 4).trans rfl
          have hfz112_0 := blk_frozen BKz14.out 0
          have hfz112_1 := blk_frozen BKz14.out 1
          have hfz112_2 := blk_frozen BKz14.out 2
          have hfz112_3 := blk_frozen BKz14.out 3
          have hfz112_4 := blk_frozen BKz14.out 4
          obtain ⟨Ao113, co113, eo113⟩ := Kd.R_slice HO_z15003.out
          subst eo113
          go_wp2
          go_ret
          exact ⟨by first | rfl | (simp [errW_none, errW_some] <;> rfl) | (simp [*, errW_none, errW_some] <;> rfl), by repeat (first | (with_reducible first | exact HB.out | apply below_alloc | apply pw_below_drewN | apply below_drew1 | refine below_set ?_ GEz14.out) | exact HB.out)⟩
         rw [if_pos c84] at H
         have c84b0 : decide (x16_4 < (xz15003_1.length : Int)) = true := decide_eq_true c84
         clear c84
         have H' := am H
         clear H
         have hcz85_0 : wr.cell? ⟨gbz14, 0, none⟩ = some (.string xz15000_1) := (blk_cell BKz14.out 0).trans rfl
         have hcz85_1 : wr.cell? ⟨gbz14, 1, none⟩ = some (.int .i64 xz15001_1) := (blk_cell BKz14.out 1).trans rfl
         have hcz85_2 : wr.cell? ⟨gbz14, 2, none⟩ = some (.slice Ao83 xz15002_1.length co83) := (blk_cell BKz14.out 2).trans rfl
         have hcz85_3 : wr.cell? ⟨gbz14, 3, none⟩ = some (uz15003) := (blk_cell BKz14.out 3).trans rfl
         have hcz85_4 : wr.cell? ⟨gbz14, 4, none⟩ = some (.bool xz15004_1) := (blk_cell BKz14.out 4).trans rfl
         have hfz85_0 := blk_frozen BKz14.out 0
         have hfz85_1 := blk_frozen BKz14.out 1
         have hfz85_2 := blk_frozen BKz14.out 2
         have hfz85_3 := blk_frozen BKz14.out 3
         have hfz85_4 := blk_frozen BKz14.out 4
         obtain ⟨Ao86, co86, eo86⟩ := Kd.R_slice HO_z15003.out
         subst eo86
         go_wp2
         go_loopg [13, 17] k4 (fun kq v13 v17 w' => ∃ (x13_5 : Bool) (x17_5 : Int), v13 = .bool x13_5 ∧ v17 = .int .i64 x17_5 ∧ Aside0 (columbariumlaw08_IdealClash.l4 kq tz1 tz13 x13_5 x16_4 x17_5 xz15000_1 xz15001_1 xz15002_1 xz15003_1 xz15004_1 = some r) ∧ Aside0 (kq ≤ k4) ∧ Aside0 (Kd.R k72 72 w' w.heap.size (fun _ => True) (.slice Ao83 xz15002_1.length co83) xz15002_1) ∧ Aside0 (Kd.R k74 74 w' w.heap.size (fun _ => True) (.slice Ao86 xz15003_1.length co86) xz15003_1) ∧ Aside0 (w'.heap[gbz14]? = some (.cells #[.string xz15000_1, .int .i64 xz15001_1, (.slice Ao83 xz15002_1.length co83), (.slice Ao86 xz15003_1.length co86), .bool xz15004_1] 50 (0, 0))) ∧ Aside0 (Below w.heap.size w w'))
         case atStart => exact ⟨(x13_4), (0), (by first | rfl | (simp; done) | (simp [*]; done)), (by first | rfl | (simp; done) | (simp [*]; done)), H', ⟨Nat.le_refl _⟩, ⟨by (with_reducible repeat (first | apply Kd.R_alloc | apply Kd.R_drewN | apply Kd.R_drew)); exact HO_z15002.out⟩, ⟨by (with_reducible repeat (first | apply Kd.R_alloc | apply Kd.R_drewN | apply Kd.R_drew)); exact HO_z15003.out⟩, ⟨by (with_reducible repeat (first | refine blk_drewN ?_ _ | refine blk_drew ?_ | refine blk_alloc ?_ _)); exact BKz14.out⟩, ⟨by repeat (first | (with_reducible first | exact HB.out | apply below_alloc | apply pw_below_drewN | apply below_drew1 | refine below_set ?_ GEz14.out) | exact HB.out)⟩⟩
         case round =>
          clear H'
          try clear p1
          try clear q1
          try clear hx1
          try clear p2
          try clear c6
          try clear p6
          try clear c7
          try clear c8
          try clear p12
          try clear q12
          try clear hx12
          try clear c63
          try clear c63b0
          try clear p64
          try clear c66
          try clear c66b0
          try clear c67
          try clear c68
          try clear c69
          try clear c70
          try clear c71
          try clear c75
          try clear c75b0
          try clear c76
          try clear c76b0
          try clear c77
          try clear c77b0
          try clear c78
          try clear c78b0
          try clear c79
          try clear c79b0
          try clear c79b1
          try clear c84
          try clear c84b0
          try clear hcz82_0
          try clear hcz82_1
          try clear hcz82_2
          try clear hcz82_3
          try clear hcz82_4
          try clear hcz85_0
          try clear hcz85_1
          try clear hcz85_2
          try clear hcz85_3
          try clear hcz85_4
          try clear hfz82_0
          try clear hfz82_1
          try clear hfz82_2
          try clear hfz82_3
          try clear hfz82_4
          try clear hfz85_0
          try clear hfz85_1
          try clear hfz85_2
          try clear hfz85_3
          try clear hfz85_4
          try clear hxz46_0
          try clear hxz46_1
          try clear hxz47_0
          try clear hxz47_1
          try clear hxz48_0
          try clear hxz48_1
          try clear hxz49_0
          try clear hxz49_1
          try clear hxz50_0
          try clear hxz50_1
          try clear hxz51_0
          try clear hxz51_1
          try clear p1
          try clear p12
          try clear pz46
          try clear pz47
          try clear pz48
          try clear pz49
          try clear pz50
          try clear pz51
          try clear p2
          try clear p6
          try clear p64
          try clear q1
          try clear q12
          try clear qz46
          try clear qz47
          try clear qz48
          try clear qz49
          try clear qz50
          try clear qz51
          obtain ⟨x13_5, x17_5, rfl, rfl, HA, HK5, HO_z15002, HO_z15003, BKz14, HB⟩ := hrel
          cases gk with
          | zero => exact absurd HA.out (by simp [columbariumlaw08_IdealClash.l4])
          | succ k5 =>
           have H := HA.out
           clear HA
           simp only [columbariumlaw08_IdealClash.l4] at H
           by_cases c87 : x17_5 < x16_4
           rotate_left
           ·rw [if_neg c87] at H
            have c87b0 : decide (x17_5 < x16_4) = false := decide_eq_false c87
            clear c87
            have H' := am H
            clear H
            go_wp2
            go_roundg k5
            case measure => have := HK1.out; have := HJ13.out; have := HK3.out; have := HK4.out; have := HK5.out; omega
            case rel => exact ⟨(x13_5), (wrap64 (x16_4 + 1)), (by first | rfl | (simp; done) | (simp [*]; done)), (by first | rfl | (simp; done) | (simp [*]; done)), H', ⟨by have := HK1.out; have := HJ13.out; have := HK3.out; have := HK4.out; have := HK5.out; omega⟩, ⟨by (with_reducible repeat (first | apply Kd.R_alloc | apply Kd.R_drewN | apply Kd.R_drew)); exact HO_z15002.out⟩, ⟨by (with_reducible repeat (first | apply Kd.R_alloc | apply Kd.R_drewN | apply Kd.R_drew)); exact HO_z15003.out⟩, ⟨by (with_reducible repeat (first | refine blk_drewN ?_ _ | refine blk_drew ?_ | refine blk_alloc ?_ _)); exact BKz14.out⟩, ⟨by repeat (first | (with_reducible first | exact HB.out | apply below_alloc | apply pw_below_drewN | apply below_drew1 | refine below_set ?_ GEz14.out) | exact HB.out)⟩⟩
           rw [if_pos c87] at H
           have c87b0 : decide (x17_5 < x16_4) = true := decide_eq_true c87
           clear c87
           by_cases c88 : 0 ≤ x16_4
           rotate_left
           ·rw [if_neg c88] at H
            exact absurd H (by simp)
           rw [if_pos c88] at H
           have c88b0 : decide (0 ≤ x16_4) = true := decide_eq_true c88
           clear c88
           by_cases c89 : x16_4 < (xz15003_1.length : Int)
           rotate_left
           ·rw [if_neg c89] at H
            exact absurd H (by simp)
           rw [if_pos c89] at H
           have c89b0 : decide (x16_4 < (xz15003_1.length : Int)) = true := decide_eq_true c89
           clear c89
           by_cases c90 : 0 ≤ x17_5
           rotate_left
           ·rw [if_neg c90] at H
            exact absurd H (by simp)
           rw [if_pos c90] at H
           have c90b0 : decide (0 ≤ x17_5) = true := decide_eq_true c90
           clear c90
           by_cases c91 : x17_5 < (xz15003_1.length : Int)
           rotate_left
           ·rw [if_neg c91] at H
            exact absurd H (by simp)
           rw [if_pos c91] at H
           have c91b0 : decide (x17_5 < (xz15003_1.length : Int)) = true := decide_eq_true c91
           clear c91
           by_cases c92 : x13_5 = true
           rotate_left
           ·replace c92 := Bool.eq_false_iff.mpr c92
            subst c92
            have H1 : (if ((rd_T74 xz15003_1 x16_4).f0).toList = ((rd_T74 xz15003_1 x17_5).f0).toList then (if ((rd_T74 xz15003_1 x16_4).f1).toList = ((rd_T74 xz15003_1 x17_5).f1).toList then (none) else (columbariumlaw08_IdealClash.l4 k5 tz1 tz13 (((rd_T74 xz15003_1 x16_4).f2).toList == ((rd_T74 xz15003_1 x17_5).f2).toList) x16_4 (wrap64 (x17_5 + 1)) xz15000_1 xz15001_1 xz15002_1 xz15003_1 xz15004_1)) else (columbariumlaw08_IdealClash.l4 k5 tz1 tz13 false x16_4 (wrap64 (x17_5 + 1)) xz15000_1 xz15001_1 xz15002_1 xz15003_1 xz15004_1)) = some r := by rw [if_neg (show ¬ (false = true) by decide)] at H; exact H
            clear H
            have H := H1
            clear H1
            by_cases c101 : ((rd_T74 xz15003_1 x16_4).f0).toList = ((rd_T74 xz15003_1 x17_5).f0).toList
            rotate_left
            ·rw [if_neg c101] at H
             have c101b0 : (((rd_T74 xz15003_1 x16_4).f0).toList == ((rd_T74 xz15003_1 x17_5).f0).toList) = false := beq_eq_false_iff_ne.mpr c101
             have c101b1 : (((rd_T74 xz15003_1 x16_4).f0).toList != ((rd_T74 xz15003_1 x17_5).f0).toList) = true := bne_iff_ne.mpr c101
             have H' := am H
             clear H
             try go_wp2
             have n0_ := am (Kd.R_drew HO_z15002.out)
             have n1_ := am (Kd.R_drew HO_z15003.out)
             have n2_ := am (blk_drew BKz14.out)
             have n3_ := am (below_drew1 HB.out)
             clear HO_z15002 HO_z15003 BKz14 HB; have HO_z15002 := n0_; have HO_z15003 := n1_; have BKz14 := n2_; have HB := n3_; clear n0_ n1_ n2_ n3_
             have pz52 : 0 ≤ (x16_4 : Int) := of_decide_eq_true (by first | (with_reducible assumption) | assumption)
             have qz52 : x16_4 < (xz15003_1.length : Int) := of_decide_eq_true (by first | (with_reducible assumption) | assumption)
             obtain ⟨adz52, ez52, hxz52_0, hxz52_1, hxz52_2⟩ := at_T74 (Kd.R_reads' HO_z15003.out).2.2 x16_4 pz52 qz52
             cases ez52
             replace pz52 := eq_true pz52
             replace qz52 := eq_true qz52
             have pz53 : 0 ≤ (x17_5 : Int) := of_decide_eq_true (by first | (with_reducible assumption) | assumption)
             have qz53 : x17_5 < (xz15003_1.length : Int) := of_decide_eq_true (by first | (with_reducible assumption) | assumption)
             obtain ⟨adz53, ez53, hxz53_0, hxz53_1, hxz53_2⟩ := at_T74 (Kd.R_reads' HO_z15003.out).2.2 x17_5 pz53 qz53
             obtain rfl : adz52 = adz53 := (by injection ez53)
             replace pz53 := eq_true pz53
             replace qz53 := eq_true qz53
             refine start_ (n := 14) (S := fun w' => w'.cell? ⟨gbz14, 0, none⟩ = some (.string xz15000_1) ∧ w'.cell? ⟨gbz14, 1, none⟩ = some (.int .i64 xz15001_1) ∧ w'.cell? ⟨gbz14, 2, none⟩ = some (.slice Ao83 xz15002_1.length co83) ∧ w'.cell? ⟨gbz14, 3, none⟩ = some (.slice (some adz52) xz15003_1.length co86) ∧ w'.cell? ⟨gbz14, 4, none⟩ = some (.bool xz15004_1) ∧ w'.cell? (adz52.add ((x16_4).toNat * 3)) = some (.string ((rd_T74 xz15003_1 x16_4).f0)) ∧ w'.cell? ⟨(adz52.add ((x16_4).toNat * 3)).block, (adz52.add ((x16_4).toNat * 3)).off + 1, none⟩ = some (.string ((rd_T74 xz15003_1 x16_4).f1)) ∧ w'.cell? ⟨(adz52.add ((x16_4).toNat * 3)).block, (adz52.add ((x16_4).toNat * 3)).off + 2, none⟩ = some (.string ((rd_T74 xz15003_1 x16_4).f2)) ∧ w'.cell? (adz52.add ((x17_5).toNat * 3)) = some (.string ((rd_T74 xz15003_1 x17_5).f0)) ∧ w'.cell? ⟨(adz52.add ((x17_5).toNat * 3)).block, (adz52.add ((x17_5).toNat * 3)).off + 1, none⟩ = some (.string ((rd_T74 xz15003_1 x17_5).f1)) ∧ w'.cell? ⟨(adz52.add ((x17_5).toNat * 3)).block, (adz52.add ((x17_5).toNat * 3)).off + 2, none⟩ = some (.string ((rd_T74 xz15003_1 x17_5).f2))) (ds := []) #[false, false, false, false, false, false, false, false, false, false, false, false, false, false] (by kernel_rfl) rfl rfl ⟨(blk_cell BKz14.out 0).trans rfl, (blk_cell BKz14.out 1).trans rfl, (blk_cell BKz14.out 2).trans rfl, (blk_cell BKz14.out 3).trans rfl, (blk_cell BKz14.out 4).trans rfl, hxz52_0, hxz52_1, hxz52_2, hxz53_0, hxz53_1, hxz53_2⟩ (fun hHeld => ?_); refine with_tabW columbariumlaw08_IdealClash.tab29 columbariumlaw08_IdealClash.bits29 (fun HT_ HW_ => ?_)
             generalize wr.drew = w106 at HO_z15002 HO_z15003 BKz14 HB hxz52_0 hxz52_1 hxz52_2 hxz53_0 hxz53_1 hxz53_2 hHeld ⊢
             refine pu_ 0 (some 124) HT_ rfl rfl (by kernel_rfl) (fun _ _ _ h => h) (.inl ⟨by rfl, by intro w'; go_simp; with_reducible rfl⟩) (by simp only [Act.put, sa_, s0_, s1_, i64_w, i32_w]; rfl) ?_
             refine pu_ 2 (some 126) HT_ rfl rfl (by kernel_rfl) (fun _ _ _ h => h) (.inl ⟨by rfl, by intro w'; go_simp; with_reducible rfl⟩) (by simp only [Act.put, sa_, s0_, s1_, i64_w, i32_w]; rfl) ?_
             refine pu_ 6 (some 130) HT_ rfl rfl (by kernel_rfl) (fun _ _ _ h => h) (.inl ⟨by rfl, by intro w'; go_simp; with_reducible rfl⟩) (by simp only [Act.put, sa_, s0_, s1_, i64_w, i32_w]; rfl) ?_
             refine pu_ 8 (some 132) HT_ rfl rfl (by kernel_rfl) (fun _ _ _ h => h) (.inl ⟨by rfl, by intro w'; go_simp; with_reducible rfl⟩) (by simp only [Act.put, sa_, s0_, s1_, i64_w, i32_w]; rfl) ?_
             refine tk_ 1 (some 125) HT_ HW_ rfl rfl (by kernel_rfl) (fun _ _ _ h => h) (.inl ⟨by rfl, by rintro w' ⟨s0, s1, s2, s3, s4, s5, s6, s7, s8, s9, s10⟩; go_simp; with_reducible rfl⟩) hHeld (by simp only [Act.put, sa_, s0_, s1_, i64_w, i32_w]; rfl) ?_
             refine pu_ 3 (some 127) HT_ rfl rfl (by kernel_rfl) (fun _ _ _ h => h) (.inl ⟨by rfl, by intro w'; go_simp; with_reducible rfl⟩) (by simp only [Act.put, sa_, s0_, s1_, i64_w, i32_w]; rfl) ?_
             refine pu_ 4 (some 128) HT_ rfl rfl (by kernel_rfl) (fun _ _ _ h => h) (.inl ⟨by rfl, by intro w'; go_simp; with_reducible rfl⟩) (by simp only [Act.put, sa_, s0_, s1_, i64_w, i32_w]; rfl) ?_
             refine tk_ 5 (some 129) HT_ HW_ rfl rfl (by kernel_rfl) (fun _ _ _ h => h) (.inl ⟨by rfl, by rintro w' ⟨s0, s1, s2, s3, s4, s5, s6, s7, s8, s9, s10⟩; go_simp; with_reducible rfl⟩) hHeld (by simp only [Act.put, sa_, s0_, s1_, i64_w, i32_w]; rfl) ?_
             refine tk_ 7 (some 131) HT_ HW_ rfl rfl (by kernel_rfl) (fun _ _ _ h => h) (.inl ⟨by rfl, by rintro w' ⟨s0, s1, s2, s3, s4, s5, s6, s7, s8, s9, s10⟩; go_simp; with_reducible rfl⟩) hHeld (by simp only [Act.put, sa_, s0_, s1_, i64_w, i32_w]; rfl) ?_
             refine pu_ 9 (some 133) HT_ rfl rfl (by kernel_rfl) (fun _ _ _ h => h) (.inl ⟨by rfl, by intro w'; go_simp; with_reducible rfl⟩) (by simp only [Act.put, sa_, s0_, s1_, i64_w, i32_w]; rfl) ?_
             refine pu_ 10 (some 134) HT_ rfl rfl (by kernel_rfl) (fun _ _ _ h => h) (.inl ⟨by rfl, by intro w'; go_simp; with_reducible rfl⟩) (by simp only [Act.put, sa_, s0_, s1_, i64_w, i32_w]; rfl) ?_
             refine tk_ 11 (some 135) HT_ HW_ rfl rfl (by kernel_rfl) (fun _ _ _ h => h) (.inl ⟨by rfl, by rintro w' ⟨s0, s1, s2, s3, s4, s5, s6, s7, s8, s9, s10⟩; go_simp; with_reducible rfl⟩) hHeld (by simp only [Act.put, sa_, s0_, s1_, i64_w, i32_w]; rfl) ?_
             refine pu_ 12 (some 136) HT_ rfl rfl (by kernel_rfl) (fun _ _ _ h => h) (.inl ⟨by rfl, by intro w'; go_simp; with_reducible rfl⟩) (by simp only [Act.put, sa_, s0_, s1_, i64_w, i32_w]; rfl) ?_
             refine pu_ 13 (some 18) HT_ rfl rfl (by kernel_rfl) (fun _ _ _ h => h) (.inl ⟨by rfl, by intro w'; go_simp; with_reducible rfl⟩) (by simp only [Act.put, sa_, s0_, s1_, i64_w, i32_w]; rfl) ?_
             refine done_ (done_of HT_.out (by kernel_rfl)) ?_
             try go_wp2
             have n0_ := am (Kd.R_drew HO_z15002.out)
             have n1_ := am (Kd.R_drew HO_z15003.out)
             have n2_ := am (blk_drew BKz14.out)
             have n3_ := am (below_drew1 HB.out)
             clear HO_z15002 HO_z15003 BKz14 HB; have HO_z15002 := n0_; have HO_z15003 := n1_; have BKz14 := n2_; have HB := n3_; clear n0_ n1_ n2_ n3_
             refine start_ (n := 20) (S := fun w' => True) (ds := []) #[false, false, false, false, false, false, false, false, false, false, false, false, false, false, false, false, false, false, false, false] (by kernel_rfl) rfl rfl trivial (fun hHeld => ?_); refine with_tabW columbariumlaw08_IdealClash.tab30 columbariumlaw08_IdealClash.bits30 (fun HT_ HW_ => ?_)
             generalize w106.drew = w107 at HO_z15002 HO_z15003 BKz14 HB hHeld ⊢
             refine pu_ 0 (some 137) HT_ rfl rfl (by kernel_rfl) (fun _ _ _ h => h) (.inl ⟨by rfl, by intro w'; go_simp; with_reducible rfl⟩) (by simp only [Act.put, sa_, s0_, s1_, i64_w, i32_w]; rfl) ?_
             refine pu_ 1 (some 138) HT_ rfl rfl (by kernel_rfl) (fun _ _ _ h => h) (.inl ⟨by rfl, by intro w'; go_simp; with_reducible rfl⟩) (by simp only [Act.put, sa_, s0_, s1_, i64_w, i32_w]; rfl) ?_
             refine pu_ 2 (some 139) HT_ rfl rfl (by kernel_rfl) (fun _ _ _ h => h) (.inl ⟨by rfl, by intro w'; go_simp; with_reducible rfl⟩) (by simp only [Act.put, sa_, s0_, s1_, i64_w, i32_w]; rfl) ?_
             refine pu_ 3 (some 140) HT_ rfl rfl (by kernel_rfl) (fun _ _ _ h => h) (.inl ⟨by rfl, by intro w'; go_simp; with_reducible rfl⟩) (by simp only [Act.put, sa_, s0_, s1_, i64_w, i32_w]; rfl) ?_
             refine pure_ (i := 4) (N := some 141) (v := undef) (a' := ?_) #[true, true, true, true, true, false, false, false, false, false, false, false, false, false, false, false, false, false, false, false] rfl rfl (any_of HT_.out (by kernel_rfl)) (fun _ _ _ h => h) (Or.inr ⟨by rfl, rfl⟩) ?_ ?_
             rotate_left
             ·simp only [Act.put, List.setIfInBounds_toArray, List.set_cons_zero, List.set_cons_succ, i64_w, i32_w]
              rfl
             refine pure_ (i := 5) (N := some 142) (v := undef) (a' := ?_) #[true, true, true, true, true, true, false, false, false, false, false, false, false, false, false, false, false, false, false, false] rfl rfl (any_of HT_.out (by kernel_rfl)) (fun _ _ _ h => h) (Or.inr ⟨by rfl, rfl⟩) ?_ ?_
             rotate_left
             ·simp only [Act.put, List.setIfInBounds_toArray, List.set_cons_zero, List.set_cons_succ, i64_w, i32_w]
              rfl
             refine pure_ (i := 6) (N := some 143) (v := undef) (a' := ?_) #[true, true, true, true, true, true, true, false, false, false, false, false, false, false, false, false, false, false, false, false] rfl rfl (any_of HT_.out (by kernel_rfl)) (fun _ _ _ h => h) (Or.inr ⟨by rfl, rfl⟩) ?_ ?_
             rotate_left
             ·simp only [Act.put, List.setIfInBounds_toArray, List.set_cons_zero, List.set_cons_succ, i64_w, i32_w]
              rfl
             refine pure_ (i := 7) (N := some 144) (v := undef) (a' := ?_) #[true, true, true, true, true, true, true, true, false, false, false, false, false, false, false, false, false, false, false, false] rfl rfl (any_of HT_.out (by kernel_rfl)) (fun _ _ _ h => h) (Or.inr ⟨by rfl, rfl⟩) ?_ ?_
             rotate_left
             ·simp only [Act.put, List.setIfInBounds_toArray, List.set_cons_zero, List.set_cons_succ, i64_w, i32_w]
              rfl
             refine pure_ (i := 8) (N := some 145) (v := undef) (a' := ?_) #[true, true, true, true, true, true, true, true, true, false, false, false, false, false, false, false, false, false, false, false] rfl rfl (any_of HT_.out (by kernel_rfl)) (fun _ _ _ h => h) (Or.inr ⟨by rfl, rfl⟩) ?_ ?_
             rotate_left
             ·simp only [Act.put, List.setIfInBounds_toArray, List.set_cons_zero, List.set_cons_succ, i64_w, i32_w]
              rfl
             refine pure_ (i := 9) (N := some 146) (v := undef) (a' := ?_) #[true, true, true, true, true, true, true, true, true, true, false, false, false, false, false, false, false, false, false, false] rfl rfl (any_of HT_.out (by kernel_rfl)) (fun _ _ _ h => h) (Or.inr ⟨by rfl, rfl⟩) ?_ ?_
             rotate_left
             ·simp only [Act.put, List.setIfInBounds_toArray, List.set_cons_zero, List.set_cons_succ, i64_w, i32_w]
              rfl
             refine pure_ (i := 10) (N := some 147) (v := undef) (a' := ?_) #[true, true, true, true, true, true, true, true, true, true, true, false, false, false, false, false, false, false, false, false] rfl rfl (any_of HT_.out (by kernel_rfl)) (fun _ _ _ h => h) (Or.inr ⟨by rfl, rfl⟩) ?_ ?_
             rotate_left
             ·simp only [Act.put, List.setIfInBounds_toArray, List.set_cons_zero, List.set_cons_succ, i64_w, i32_w]
              rfl
             refine pure_ (i := 11) (N := some 148) (v := undef) (a' := ?_) #[true, true, true, true, true, true, true, true, true, true, true, true, false, false, false, false, false, false, false, false] rfl rfl (any_of HT_.out (by kernel_rfl)) (fun _ _ _ h => h) (Or.inr ⟨by rfl, rfl⟩) ?_ ?_
             rotate_left
             ·simp only [Act.put, List.setIfInBounds_toArray, List.set_cons_zero, List.set_cons_succ, i64_w, i32_w]
              rfl
             refine pure_ (i := 12) (N := some 149) (v := undef) (a' := ?_) #[true, true, true, true, true, true, true, true, true, true, true, true, true, false, false, false, false, false, false, false] rfl rfl (any_of HT_.out (by kernel_rfl)) (fun _ _ _ h => h) (Or.inr ⟨by rfl, rfl⟩) ?_ ?_
             rotate_left
             ·simp only [Act.put, List.setIfInBounds_toArray, List.set_cons_zero, List.set_cons_succ, i64_w, i32_w]
              rfl
             refine pure_ (i := 13) (N := some 150) (v := undef) (a' := ?_) #[true, true, true, true, true, true, true, true, true, true, true, true, true, true, false, false, false, false, false, false] rfl rfl (any_of HT_.out (by kernel_rfl)) (fun _ _ _ h => h) (Or.inr ⟨by rfl, rfl⟩) ?_ ?_
             rotate_left
             ·simp only [Act.put, List.setIfInBounds_toArray, List.set_cons_zero, List.set_cons_succ, i64_w, i32_w]
              rfl
             refine pure_ (i := 14) (N := some 151) (v := undef) (a' := ?_) #[true, true, true, true, true, true, true, true, true, true, true, true, true, true, true, false, false, false, false, false] rfl rfl (any_of HT_.out (by kernel_rfl)) (fun _ _ _ h => h) (Or.inr ⟨by rfl, rfl⟩) ?_ ?_
             rotate_left
             ·simp only [Act.put, List.setIfInBounds_toArray, List.set_cons_zero, List.set_cons_succ, i64_w, i32_w]
              rfl
             refine pure_ (i := 15) (N := some 152) (v := undef) (a' := ?_) #[true, true, true, true, true, true, true, true, true, true, true, true, true, true, true, true, false, false, false, false] rfl rfl (any_of HT_.out (by kernel_rfl)) (fun _ _ _ h => h) (Or.inr ⟨by rfl, rfl⟩) ?_ ?_
             rotate_left
             ·simp only [Act.put, List.setIfInBounds_toArray, List.set_cons_zero, List.set_cons_succ, i64_w, i32_w]
              rfl
             refine pure_ (i := 16) (N := some 153) (v := undef) (a' := ?_) #[true, true, true, true, true, true, true, true, true, true, true, true, true, true, true, true, true, false, false, false] rfl rfl (any_of HT_.out (by kernel_rfl)) (fun _ _ _ h => h) (Or.inr ⟨by rfl, rfl⟩) ?_ ?_
             rotate_left
             ·simp only [Act.put, List.setIfInBounds_toArray, List.set_cons_zero, List.set_cons_succ, i64_w, i32_w]
              rfl
             refine pu_ 17 (some 154) HT_ rfl rfl (by kernel_rfl) (fun _ _ _ h => h) (.inl ⟨by rfl, by intro w'; go_simp; with_reducible rfl⟩) (by simp only [Act.put, sa_, s0_, s1_, i64_w, i32_w]; rfl) ?_
             refine pu_ 18 (some 155) HT_ rfl rfl (by kernel_rfl) (fun _ _ _ h => h) (.inl ⟨by rfl, by intro w'; go_simp; with_reducible rfl⟩) (by simp only [Act.put, sa_, s0_, s1_, i64_w, i32_w]; rfl) ?_
             refine pu_ 19 (some 13) HT_ rfl rfl (by kernel_rfl) (fun _ _ _ h => h) (.inl ⟨by rfl, by intro w'; go_simp; with_reducible rfl⟩) (by simp only [Act.put, sa_, s0_, s1_, i64_w, i32_w]; rfl) ?_
             refine done_ (done_of HT_.out (by kernel_rfl)) ?_
             try go_wp2
             have n0_ := am (Kd.R_drew HO_z15002.out)
             have n1_ := am (Kd.R_drew HO_z15003.out)
             have n2_ := am (blk_drew BKz14.out)
             have n3_ := am (below_drew1 HB.out)
             clear HO_z15002 HO_z15003 BKz14 HB; have HO_z15002 := n0_; have HO_z15003 := n1_; have BKz14 := n2_; have HB := n3_; clear n0_ n1_ n2_ n3_
             refine start_ (n := 16) (S := fun w' => True) (ds := []) #[false, false, false, false, false, false, false, false, false, false, false, false, false, false, false, false] (by kernel_rfl) rfl rfl trivial (fun hHeld => ?_); refine with_tabW columbariumlaw08_IdealClash.tab31 columbariumlaw08_IdealClash.bits31 (fun HT_ HW_ => ?_)
             generalize w107.drew = w108 at HO_z15002 HO_z15003 BKz14 HB hHeld ⊢
             refine pu_ 0 (some 156) HT_ rfl rfl (by kernel_rfl) (fun _ _ _ h => h) (.inl ⟨by rfl, by intro w'; go_simp; with_reducible rfl⟩) (by simp only [Act.put, sa_, s0_, s1_, i64_w, i32_w]; rfl) ?_
             refine pu_ 1 (some 157) HT_ rfl rfl (by kernel_rfl) (fun _ _ _ h => h) (.inl ⟨by rfl, by intro w'; go_simp; with_reducible rfl⟩) (by simp only [Act.put, sa_, s0_, s1_, i64_w, i32_w]; rfl) ?_
             refine pure_ (i := 2) (N := some 158) (v := undef) (a' := ?_) #[true, true, true, false, false, false, false, false, false, false, false, false, false, false, false, false] rfl rfl (any_of HT_.out (by kernel_rfl)) (fun _ _ _ h => h) (Or.inr ⟨by rfl, rfl⟩) ?_ ?_
             rotate_left
             ·simp only [Act.put, List.setIfInBounds_toArray, List.set_cons_zero, List.set_cons_succ, i64_w, i32_w]
              rfl
             refine pure_ (i := 3) (N := some 159) (v := undef) (a' := ?_) #[true, true, true, true, false, false, false, false, false, false, false, false, false, false, false, false] rfl rfl (any_of HT_.out (by kernel_rfl)) (fun _ _ _ h => h) (Or.inr ⟨by rfl, rfl⟩) ?_ ?_
             rotate_left
             ·simp only [Act.put, List.setIfInBounds_toArray, List.set_cons_zero, List.set_cons_succ, i64_w, i32_w]
              rfl
             refine pure_ (i := 4) (N := some 160) (v := undef) (a' := ?_) #[true, true, true, true, true, false, false, false, false, false, false, false, false, false, false, false] rfl rfl (any_of HT_.out (by kernel_rfl)) (fun _ _ _ h => h) (Or.inr ⟨by rfl, rfl⟩) ?_ ?_
             rotate_left
             ·simp only [Act.put, List.setIfInBounds_toArray, List.set_cons_zero, List.set_cons_succ, i64_w, i32_w]
              rfl
             refine pure_ (i := 5) (N := some 161) (v := undef) (a' := ?_) #[true, true, true, true, true, true, false, false, false, false, false, false, false, false, false, false] rfl rfl (any_of HT_.out (by kernel_rfl)) (fun _ _ _ h => h) (Or.inr ⟨by rfl, rfl⟩) ?_ ?_
             rotate_left
             ·simp only [Act.put, List.setIfInBounds_toArray, List.set_cons_zero, List.set_cons_succ, i64_w, i32_w]
              rfl
             refine pure_ (i := 6) (N := some 162) (v := undef) (a' := ?_) #[true, true, true, true, true, true, true, false, false, false, false, false, false, false, false, false] rfl rfl (any_of HT_.out (by kernel_rfl)) (fun _ _ _ h => h) (Or.inr ⟨by rfl, rfl⟩) ?_ ?_
             rotate_left
             ·simp only [Act.put, List.setIfInBounds_toArray, List.set_cons_zero, List.set_cons_succ, i64_w, i32_w]
              rfl
             refine pure_ (i := 7) (N := some 163) (v := undef) (a' := ?_) #[true, true, true, true, true, true, true, true, false, false, false, false, false, false, false, false] rfl rfl (any_of HT_.out (by kernel_rfl)) (fun _ _ _ h => h) (Or.inr ⟨by rfl, rfl⟩) ?_ ?_
             rotate_left
             ·simp only [Act.put, List.setIfInBounds_toArray, List.set_cons_zero, List.set_cons_succ, i64_w, i32_w]
              rfl
             refine pure_ (i := 8) (N := some 164) (v := undef) (a' := ?_) #[true, true, true, true, true, true, true, true, true, false, false, false, false, false, false, false] rfl rfl (any_of HT_.out (by kernel_rfl)) (fun _ _ _ h => h) (Or.inr ⟨by rfl, rfl⟩) ?_ ?_
             rotate_left
             ·simp only [Act.put, List.setIfInBounds_toArray, List.set_cons_zero, List.set_cons_succ, i64_w, i32_w]
              rfl
             refine pure_ (i := 9) (N := some 165) (v := undef) (a' := ?_) #[true, true, true, true, true, true, true, true, true, true, false, false, false, false, false, false] rfl rfl (any_of HT_.out (by kernel_rfl)) (fun _ _ _ h => h) (Or.inr ⟨by rfl, rfl⟩) ?_ ?_
             rotate_left
             ·simp only [Act.put, List.setIfInBounds_toArray, List.set_cons_zero, List.set_cons_succ, i64_w, i32_w]
              rfl
             refine pure_ (i := 10) (N := some 166) (v := undef) (a' := ?_) #[true, true, true, true, true, true, true, true, true, true, true, false, false, false, false, false] rfl rfl (any_of HT_.out (by kernel_rfl)) (fun _ _ _ h => h) (Or.inr ⟨by rfl, rfl⟩) ?_ ?_
             rotate_left
             ·simp only [Act.put, List.setIfInBounds_toArray, List.set_cons_zero, List.set_cons_succ, i64_w, i32_w]
              rfl
             refine pure_ (i := 11) (N := some 167) (v := undef) (a' := ?_) #[true, true, true, true, true, true, true, true, true, true, true, true, false, false, false, false] rfl rfl (any_of HT_.out (by kernel_rfl)) (fun _ _ _ h => h) (Or.inr ⟨by rfl, rfl⟩) ?_ ?_
             rotate_left
             ·simp only [Act.put, List.setIfInBounds_toArray, List.set_cons_zero, List.set_cons_succ, i64_w, i32_w]
              rfl
             refine pure_ (i := 12) (N := some 168) (v := undef) (a' := ?_) #[true, true, true, true, true, true, true, true, true, true, true, true, true, false, false, false] rfl rfl (any_of HT_.out (by kernel_rfl)) (fun _ _ _ h => h) (Or.inr ⟨by rfl, rfl⟩) ?_ ?_
             rotate_left
             ·simp only [Act.put, List.setIfInBounds_toArray, List.set_cons_zero, List.set_cons_succ, i64_w, i32_w]
              rfl
             refine pure_ (i := 13) (N := some 169) (v := undef) (a' := ?_) #[true, true, true, true, true, true, true, true, true, true, true, true, true, true, false, false] rfl rfl (any_of HT_.out (by kernel_rfl)) (fun _ _ _ h => h) (Or.inr ⟨by rfl, rfl⟩) ?_ ?_
             rotate_left
             ·simp only [Act.put, List.setIfInBounds_toArray, List.set_cons_zero, List.set_cons_succ, i64_w, i32_w]
              rfl
             refine pure_ (i := 14) (N := some 170) (v := undef) (a' := ?_) #[true, true, true, true, true, true, true, true, true, true, true, true, true, true, true, false] rfl rfl (any_of HT_.out (by kernel_rfl)) (fun _ _ _ h => h) (Or.inr ⟨by rfl, rfl⟩) ?_ ?_
             rotate_left
             ·simp only [Act.put, List.setIfInBounds_toArray, List.set_cons_zero, List.set_cons_succ, i64_w, i32_w]
              rfl
             refine pu_ 15 (some 171) HT_ rfl rfl (by kernel_rfl) (fun _ _ _ h => h) (.inl ⟨by rfl, by intro w'; go_simp; with_reducible rfl⟩) (by simp only [Act.put, sa_, s0_, s1_, i64_w, i32_w]; rfl) ?_
             refine done_ (done_of HT_.out (by kernel_rfl)) ?_
             try go_wp2
             go_roundg k5
             case measure => have := HK1.out; have := HJ13.out; have := HK3.out; have := HK4.out; have := HK5.out; omega
             case rel => exact ⟨(false), (wrap64 (x17_5 + 1)), (by first | rfl | (simp; done) | (simp [*]; done)), (by first | rfl | (simp; done) | (simp [*]; done)), H', ⟨by have := HK1.out; have := HJ13.out; have := HK3.out; have := HK4.out; have := HK5.out; omega⟩, ⟨by (with_reducible repeat (first | apply Kd.R_alloc | apply Kd.R_drewN | apply Kd.R_drew)); exact HO_z15002.out⟩, ⟨by (with_reducible repeat (first | apply Kd.R_alloc | apply Kd.R_drewN | apply Kd.R_drew)); exact HO_z15003.out⟩, ⟨by (with_reducible repeat (first | refine blk_drewN ?_ _ | refine blk_drew ?_ | refine blk_alloc ?_ _)); exact BKz14.out⟩, ⟨by repeat (first | (with_reducible first | exact HB.out | apply below_alloc | apply pw_below_drewN | apply below_drew1 | refine below_set ?_ GEz14.out) | exact HB.out)⟩⟩
            rw [if_pos c101] at H
            have c101b0 : (((rd_T74 xz15003_1 x16_4).f0).toList == ((rd_T74 xz15003_1 x17_5).f0).toList) = true := beq_iff_eq.mpr c101
            have c101b1 : (((rd_T74 xz15003_1 x16_4).f0).toList != ((rd_T74 xz15003_1 x17_5).f0).toList) = false := bne_eq_false_iff_eq.mpr c101
            clear c101
            by_cases c102 : ((rd_T74 xz15003_1 x16_4).f1).toList = ((rd_T74 xz15003_1 x17_5).f1).toList
            ·rw [if_pos c102] at H
             exact absurd H (by simp)
            rw [if_neg c102] at H
            have c102b0 : (((rd_T74 xz15003_1 x16_4).f1).toList == ((rd_T74 xz15003_1 x17_5).f1).toList) = false := beq_eq_false_iff_ne.mpr c102
            have c102b1 : (((rd_T74 xz15003_1 x16_4).f1).toList != ((rd_T74 xz15003_1 x17_5).f1).toList) = true := bne_iff_ne.mpr c102
            have H' := am H
            clear H
            try go_wp2
            have n0_ := am (Kd.R_drew HO_z15002.out)
            have n1_ := am (Kd.R_drew HO_z15003.out)
            have n2_ := am (blk_drew BKz14.out)
            have n3_ := am (below_drew1 HB.out)
            clear HO_z15002 HO_z15003 BKz14 HB; have HO_z15002 := n0_; have HO_z15003 := n1_; have BKz14 := n2_; have HB := n3_; clear n0_ n1_ n2_ n3_
            have pz52 : 0 ≤ (x16_4 : Int) := of_decide_eq_true (by first | (with_reducible assumption) | assumption)
            have qz52 : x16_4 < (xz15003_1.length : Int) := of_decide_eq_true (by first | (with_reducible assumption) | assumption)
            obtain ⟨adz52, ez52, hxz52_0, hxz52_1, hxz52_2⟩ := at_T74 (Kd.R_reads' HO_z15003.out).2.2 x16_4 pz52 qz52
            cases ez52
            replace pz52 := eq_true pz52
            replace qz52 := eq_true qz52
            have pz53 : 0 ≤ (x17_5 : Int) := of_decide_eq_true (by first | (with_reducible assumption) | assumption)
            have qz53 : x17_5 < (xz15003_1.length : Int) := of_decide_eq_true (by first | (with_reducible assumption) | assumption)
            obtain ⟨adz53, ez53, hxz53_0, hxz53_1, hxz53_2⟩ := at_T74 (Kd.R_reads' HO_z15003.out).2.2 x17_5 pz53 qz53
            obtain rfl : adz52 = adz53 := (by injection ez53)
            replace pz53 := eq_true pz53
            replace qz53 := eq_true qz53
            refine start_ (n := 14) (S := fun w' => w'.cell? ⟨gbz14, 0, none⟩ = some (.string xz15000_1) ∧ w'.cell? ⟨gbz14, 1, none⟩ = some (.int .i64 xz15001_1) ∧ w'.cell? ⟨gbz14, 2, none⟩ = some (.slice Ao83 xz15002_1.length co83) ∧ w'.cell? ⟨gbz14, 3, none⟩ = some (.slice (some adz52) xz15003_1.length co86) ∧ w'.cell? ⟨gbz14, 4, none⟩ = some (.bool xz15004_1) ∧ w'.cell? (adz52.add ((x16_4).toNat * 3)) = some (.string ((rd_T74 xz15003_1 x16_4).f0)) ∧ w'.cell? ⟨(adz52.add ((x16_4).toNat * 3)).block, (adz52.add ((x16_4).toNat * 3)).off + 1, none⟩ = some (.string ((rd_T74 xz15003_1 x16_4).f1)) ∧ w'.cell? ⟨(adz52.add ((x16_4).toNat * 3)).block, (adz52.add ((x16_4).toNat * 3)).off + 2, none⟩ = some (.string ((rd_T74 xz15003_1 x16_4).f2)) ∧ w'.cell? (adz52.add ((x17_5).toNat * 3)) = some (.string ((rd_T74 xz15003_1 x17_5).f0)) ∧ w'.cell? ⟨(adz52.add ((x17_5).toNat * 3)).block, (adz52.add ((x17_5).toNat * 3)).off + 1, none⟩ = some (.string ((rd_T74 xz15003_1 x17_5).f1)) ∧ w'.cell? ⟨(adz52.add ((x17_5).toNat * 3)).block, (adz52.add ((x17_5).toNat * 3)).off + 2, none⟩ = some (.string ((rd_T74 xz15003_1 x17_5).f2))) (ds := []) #[false, false, false, false, false, false, false, false, false, false, false, false, false, false] (by kernel_rfl) rfl rfl ⟨(blk_cell BKz14.out 0).trans rfl, (blk_cell BKz14.out 1).trans rfl, (blk_cell BKz14.out 2).trans rfl, (blk_cell BKz14.out 3).trans rfl, (blk_cell BKz14.out 4).trans rfl, hxz52_0, hxz52_1, hxz52_2, hxz53_0, hxz53_1, hxz53_2⟩ (fun hHeld => ?_); refine with_tabW columbariumlaw08_IdealClash.tab29 columbariumlaw08_IdealClash.bits29 (fun HT_ HW_ => ?_)
            generalize wr.drew = w103 at HO_z15002 HO_z15003 BKz14 HB hxz52_0 hxz52_1 hxz52_2 hxz53_0 hxz53_1 hxz53_2 hHeld ⊢
            refine pu_ 0 (some 124) HT_ rfl rfl (by kernel_rfl) (fun _ _ _ h => h) (.inl ⟨by rfl, by intro w'; go_simp; with_reducible rfl⟩) (by simp only [Act.put, sa_, s0_, s1_, i64_w, i32_w]; rfl) ?_
            refine pu_ 2 (some 126) HT_ rfl rfl (by kernel_rfl) (fun _ _ _ h => h) (.inl ⟨by rfl, by intro w'; go_simp; with_reducible rfl⟩) (by simp only [Act.put, sa_, s0_, s1_, i64_w, i32_w]; rfl) ?_
            refine pu_ 6 (some 130) HT_ rfl rfl (by kernel_rfl) (fun _ _ _ h => h) (.inl ⟨by rfl, by intro w'; go_simp; with_reducible rfl⟩) (by simp only [Act.put, sa_, s0_, s1_, i64_w, i32_w]; rfl) ?_
            refine pu_ 8 (some 132) HT_ rfl rfl (by kernel_rfl) (fun _ _ _ h => h) (.inl ⟨by rfl, by intro w'; go_simp; with_reducible rfl⟩) (by simp only [Act.put, sa_, s0_, s1_, i64_w, i32_w]; rfl) ?_
            refine tk_ 1 (some 125) HT_ HW_ rfl rfl (by kernel_rfl) (fun _ _ _ h => h) (.inl ⟨by rfl, by rintro w' ⟨s0, s1, s2, s3, s4, s5, s6, s7, s8, s9, s10⟩; go_simp; with_reducible rfl⟩) hHeld (by simp only [Act.put, sa_, s0_, s1_, i64_w, i32_w]; rfl) ?_
            refine pu_ 3 (some 127) HT_ rfl rfl (by kernel_rfl) (fun _ _ _ h => h) (.inl ⟨by rfl, by intro w'; go_simp; with_reducible rfl⟩) (by simp only [Act.put, sa_, s0_, s1_, i64_w, i32_w]; rfl) ?_
            refine pu_ 4 (some 128) HT_ rfl rfl (by kernel_rfl) (fun _ _ _ h => h) (.inl ⟨by rfl, by intro w'; go_simp; with_reducible rfl⟩) (by simp only [Act.put, sa_, s0_, s1_, i64_w, i32_w]; rfl) ?_
            refine tk_ 5 (some 129) HT_ HW_ rfl rfl (by kernel_rfl) (fun _ _ _ h => h) (.inl ⟨by rfl, by rintro w' ⟨s0, s1, s2, s3, s4, s5, s6, s7, s8, s9, s10⟩; go_simp; with_reducible rfl⟩) hHeld (by simp only [Act.put, sa_, s0_, s1_, i64_w, i32_w]; rfl) ?_
            refine tk_ 7 (some 131) HT_ HW_ rfl rfl (by kernel_rfl) (fun _ _ _ h => h) (.inl ⟨by rfl, by rintro w' ⟨s0, s1, s2, s3, s4, s5, s6, s7, s8, s9, s10⟩; go_simp; with_reducible rfl⟩) hHeld (by simp only [Act.put, sa_, s0_, s1_, i64_w, i32_w]; rfl) ?_
            refine pu_ 9 (some 133) HT_ rfl rfl (by kernel_rfl) (fun _ _ _ h => h) (.inl ⟨by rfl, by intro w'; go_simp; with_reducible rfl⟩) (by simp only [Act.put, sa_, s0_, s1_, i64_w, i32_w]; rfl) ?_
            refine pu_ 10 (some 134) HT_ rfl rfl (by kernel_rfl) (fun _ _ _ h => h) (.inl ⟨by rfl, by intro w'; go_simp; with_reducible rfl⟩) (by simp only [Act.put, sa_, s0_, s1_, i64_w, i32_w]; rfl) ?_
            refine tk_ 11 (some 135) HT_ HW_ rfl rfl (by kernel_rfl) (fun _ _ _ h => h) (.inl ⟨by rfl, by rintro w' ⟨s0, s1, s2, s3, s4, s5, s6, s7, s8, s9, s10⟩; go_simp; with_reducible rfl⟩) hHeld (by simp only [Act.put, sa_, s0_, s1_, i64_w, i32_w]; rfl) ?_
            refine pu_ 12 (some 136) HT_ rfl rfl (by kernel_rfl) (fun _ _ _ h => h) (.inl ⟨by rfl, by intro w'; go_simp; with_reducible rfl⟩) (by simp only [Act.put, sa_, s0_, s1_, i64_w, i32_w]; rfl) ?_
            refine pu_ 13 (some 18) HT_ rfl rfl (by kernel_rfl) (fun _ _ _ h => h) (.inl ⟨by rfl, by intro w'; go_simp; with_reducible rfl⟩) (by simp only [Act.put, sa_, s0_, s1_, i64_w, i32_w]; rfl) ?_
            refine done_ (done_of HT_.out (by kernel_rfl)) ?_
            try go_wp2
            have n0_ := am (Kd.R_drew HO_z15002.out)
            have n1_ := am (Kd.R_drew HO_z15003.out)
            have n2_ := am (blk_drew BKz14.out)
            have n3_ := am (below_drew1 HB.out)
            clear HO_z15002 HO_z15003 BKz14 HB; have HO_z15002 := n0_; have HO_z15003 := n1_; have BKz14 := n2_; have HB := n3_; clear n0_ n1_ n2_ n3_
            have pz56 : 0 ≤ (x16_4 : Int) := of_decide_eq_true (by first | (with_reducible assumption) | assumption)
            have qz56 : x16_4 < (xz15003_1.length : Int) := of_decide_eq_true (by first | (with_reducible assumption) | assumption)
            obtain ⟨adz56, ez56, hxz56_0, hxz56_1, hxz56_2⟩ := at_T74 (Kd.R_reads' HO_z15003.out).2.2 x16_4 pz56 qz56
            obtain rfl : adz52 = adz56 := (by injection ez56)
            replace pz56 := eq_true pz56
            replace qz56 := eq_true qz56
            have pz57 : 0 ≤ (x17_5 : Int) := of_decide_eq_true (by first | (with_reducible assumption) | assumption)
            have qz57 : x17_5 < (xz15003_1.length : Int) := of_decide_eq_true (by first | (with_reducible assumption) | assumption)
            obtain ⟨adz57, ez57, hxz57_0, hxz57_1, hxz57_2⟩ := at_T74 (Kd.R_reads' HO_z15003.out).2.2 x17_5 pz57 qz57
            obtain rfl : adz52 = adz57 := (by injection ez57)
            replace pz57 := eq_true pz57
            replace qz57 := eq_true qz57
            refine start_ (n := 20) (S := fun w' => w'.cell? ⟨gbz14, 0, none⟩ = some (.string xz15000_1) ∧ w'.cell? ⟨gbz14, 1, none⟩ = some (.int .i64 xz15001_1) ∧ w'.cell? ⟨gbz14, 2, none⟩ = some (.slice Ao83 xz15002_1.length co83) ∧ w'.cell? ⟨gbz14, 3, none⟩ = some (.slice (some adz52) xz15003_1.length co86) ∧ w'.cell? ⟨gbz14, 4, none⟩ = some (.bool xz15004_1) ∧ w'.cell? (adz52.add ((x16_4).toNat * 3)) = some (.string ((rd_T74 xz15003_1 x16_4).f0)) ∧ w'.cell? ⟨(adz52.add ((x16_4).toNat * 3)).block, (adz52.add ((x16_4).toNat * 3)).off + 1, none⟩ = some (.string ((rd_T74 xz15003_1 x16_4).f1)) ∧ w'.cell? ⟨(adz52.add ((x16_4).toNat * 3)).block, (adz52.add ((x16_4).toNat * 3)).off + 2, none⟩ = some (.string ((rd_T74 xz15003_1 x16_4).f2)) ∧ w'.cell? (adz52.add ((x17_5).toNat * 3)) = some (.string ((rd_T74 xz15003_1 x17_5).f0)) ∧ w'.cell? ⟨(adz52.add ((x17_5).toNat * 3)).block, (adz52.add ((x17_5).toNat * 3)).off + 1, none⟩ = some (.string ((rd_T74 xz15003_1 x17_5).f1)) ∧ w'.cell? ⟨(adz52.add ((x17_5).toNat * 3)).block, (adz52.add ((x17_5).toNat * 3)).off + 2, none⟩ = some (.string ((rd_T74 xz15003_1 x17_5).f2))) (ds := []) #[false, false, false, false, false, false, false, false, false, false, false, false, false, false, false, false, false, false, false, false] (by kernel_rfl) rfl rfl ⟨(blk_cell BKz14.out 0).trans rfl, (blk_cell BKz14.out 1).trans rfl, (blk_cell BKz14.out 2).trans rfl, (blk_cell BKz14.out 3).trans rfl, (blk_cell BKz14.out 4).trans rfl, hxz56_0, hxz56_1, hxz56_2, hxz57_0, hxz57_1, hxz57_2⟩ (fun hHeld => ?_); refine with_tabW columbariumlaw08_IdealClash.tab30 columbariumlaw08_IdealClash.bits30 (fun HT_ HW_ => ?_)
            generalize w103.drew = w104 at HO_z15002 HO_z15003 BKz14 HB hxz56_0 hxz56_1 hxz56_2 hxz57_0 hxz57_1 hxz57_2 hHeld ⊢
            refine pu_ 0 (some 137) HT_ rfl rfl (by kernel_rfl) (fun _ _ _ h => h) (.inl ⟨by rfl, by intro w'; go_simp; with_reducible rfl⟩) (by simp only [Act.put, sa_, s0_, s1_, i64_w, i32_w]; rfl) ?_
            refine pu_ 1 (some 138) HT_ rfl rfl (by kernel_rfl) (fun _ _ _ h => h) (.inl ⟨by rfl, by intro w'; go_simp; with_reducible rfl⟩) (by simp only [Act.put, sa_, s0_, s1_, i64_w, i32_w]; rfl) ?_
            refine pu_ 2 (some 139) HT_ rfl rfl (by kernel_rfl) (fun _ _ _ h => h) (.inl ⟨by rfl, by intro w'; go_simp; with_reducible rfl⟩) (by simp only [Act.put, sa_, s0_, s1_, i64_w, i32_w]; rfl) ?_
            refine pu_ 3 (some 140) HT_ rfl rfl (by kernel_rfl) (fun _ _ _ h => h) (.inl ⟨by rfl, by intro w'; go_simp; with_reducible rfl⟩) (by simp only [Act.put, sa_, s0_, s1_, i64_w, i32_w]; rfl) ?_
            refine pu_ 4 (some 141) HT_ rfl rfl (by kernel_rfl) (fun _ _ _ h => h) (.inl ⟨by rfl, by intro w'; go_simp; with_reducible rfl⟩) (by simp only [Act.put, sa_, s0_, s1_, i64_w, i32_w]; rfl) ?_
            refine pu_ 6 (some 143) HT_ rfl rfl (by kernel_rfl) (fun _ _ _ h => h) (.inl ⟨by rfl, by intro w'; go_simp; with_reducible rfl⟩) (by simp only [Act.put, sa_, s0_, s1_, i64_w, i32_w]; rfl) ?_
            refine pu_ 10 (some 147) HT_ rfl rfl (by kernel_rfl) (fun _ _ _ h => h) (.inl ⟨by rfl, by intro w'; go_simp; with_reducible rfl⟩) (by simp only [Act.put, sa_, s0_, s1_, i64_w, i32_w]; rfl) ?_
            refine pu_ 12 (some 149) HT_ rfl rfl (by kernel_rfl) (fun _ _ _ h => h) (.inl ⟨by rfl, by intro w'; go_simp; with_reducible rfl⟩) (by simp only [Act.put, sa_, s0_, s1_, i64_w, i32_w]; rfl) ?_
            refine tk_ 5 (some 142) HT_ HW_ rfl rfl (by kernel_rfl) (fun _ _ _ h => h) (.inl ⟨by rfl, by rintro w' ⟨s0, s1, s2, s3, s4, s5, s6, s7, s8, s9, s10⟩; go_simp; with_reducible rfl⟩) hHeld (by simp only [Act.put, sa_, s0_, s1_, i64_w, i32_w]; rfl) ?_
            refine pu_ 7 (some 144) HT_ rfl rfl (by kernel_rfl) (fun _ _ _ h => h) (.inl ⟨by rfl, by intro w'; go_simp; with_reducible rfl⟩) (by simp only [Act.put, sa_, s0_, s1_, i64_w, i32_w]; rfl) ?_
            refine pu_ 8 (some 145) HT_ rfl rfl (by kernel_rfl) (fun _ _ _ h => h) (.inl ⟨by rfl, by intro w'; go_simp; with_reducible rfl⟩) (by simp only [Act.put, sa_, s0_, s1_, i64_w, i32_w]; rfl) ?_
            refine tk_ 9 (some 146) HT_ HW_ rfl rfl (by kernel_rfl) (fun _ _ _ h => h) (.inl ⟨by rfl, by rintro w' ⟨s0, s1, s2, s3, s4, s5, s6, s7, s8, s9, s10⟩; go_simp; with_reducible rfl⟩) hHeld (by simp only [Act.put, sa_, s0_, s1_, i64_w, i32_w]; rfl) ?_
            refine tk_ 11 (some 148) HT_ HW_ rfl rfl (by kernel_rfl) (fun _ _ _ h => h) (.inl ⟨by rfl, by rintro w' ⟨s0, s1, s2, s3, s4, s5, s6, s7, s8, s9, s10⟩; go_simp; with_reducible rfl⟩) hHeld (by simp only [Act.put, sa_, s0_, s1_, i64_w, i32_w]; rfl) ?_
            refine pu_ 13 (some 150) HT_ rfl rfl (by kernel_rfl) (fun _ _ _ h => h) (.inl ⟨by rfl, by intro w'; go_simp; with_reducible rfl⟩) (by simp only [Act.put, sa_, s0_, s1_, i64_w, i32_w]; rfl) ?_
            refine pu_ 14 (some 151) HT_ rfl rfl (by kernel_rfl) (fun _ _ _ h => h) (.inl ⟨by rfl, by intro w'; go_simp; with_reducible rfl⟩) (by simp only [Act.put, sa_, s0_, s1_, i64_w, i32_w]; rfl) ?_
            refine tk_ 15 (some 152) HT_ HW_ rfl rfl (by kernel_rfl) (fun _ _ _ h => h) (.inl ⟨by rfl, by rintro w' ⟨s0, s1, s2, s3, s4, s5, s6, s7, s8, s9, s10⟩; go_simp; with_reducible rfl⟩) hHeld (by simp only [Act.put, sa_, s0_, s1_, i64_w, i32_w]; rfl) ?_
            refine pu_ 16 (some 153) HT_ rfl rfl (by kernel_rfl) (fun _ _ _ h => h) (.inl ⟨by rfl, by intro w'; go_simp; with_reducible rfl⟩) (by simp only [Act.put, sa_, s0_, s1_, i64_w, i32_w]; rfl) ?_
            refine pu_ 17 (some 154) HT_ rfl rfl (by kernel_rfl) (fun _ _ _ h => h) (.inl ⟨by rfl, by intro w'; go_simp; with_reducible rfl⟩) (by simp only [Act.put, sa_, s0_, s1_, i64_w, i32_w]; rfl) ?_
            refine pu_ 18 (some 155) HT_ rfl rfl (by kernel_rfl) (fun _ _ _ h => h) (.inl ⟨by rfl, by intro w'; go_simp; with_reducible rfl⟩) (by simp only [Act.put, sa_, s0_, s1_, i64_w, i32_w]; rfl) ?_
            refine pu_ 19 (some 13) HT_ rfl rfl (by kernel_rfl) (fun _ _ _ h => h) (.inl ⟨by rfl, by intro w'; go_simp; with_reducible rfl⟩) (by simp only [Act.put, sa_, s0_, s1_, i64_w, i32_w]; rfl) ?_
            refine done_ (done_of HT_.out (by kernel_rfl)) ?_
            try go_wp2
            have n0_ := am (Kd.R_drew HO_z15002.out)
            have n1_ := am (Kd.R_drew HO_z15003.out)
            have n2_ := am (blk_drew BKz14.out)
            have n3_ := am (below_drew1 HB.out)
            clear HO_z15002 HO_z15003 BKz14 HB; have HO_z15002 := n0_; have HO_z15003 := n1_; have BKz14 := n2_; have HB := n3_; clear n0_ n1_ n2_ n3_
            have pz58 : 0 ≤ (x16_4 : Int) := of_decide_eq_true (by first | (with_reducible assumption) | assumption)
            have qz58 : x16_4 < (xz15003_1.length : Int) := of_decide_eq_true (by first | (with_reducible assumption) | assumption)
            obtain ⟨adz58, ez58, hxz58_0, hxz58_1, hxz58_2⟩ := at_T74 (Kd.R_reads' HO_z15003.out).2.2 x16_4 pz58 qz58
            obtain rfl : adz52 = adz58 := (by injection ez58)
            replace pz58 := eq_true pz58
            replace qz58 := eq_true qz58
            have pz59 : 0 ≤ (x17_5 : Int) := of_decide_eq_true (by first | (with_reducible assumption) | assumption)
            have qz59 : x17_5 < (xz15003_1.length : Int) := of_decide_eq_true (by first | (with_reducible assumption) | assumption)
            obtain ⟨adz59, ez59, hxz59_0, hxz59_1, hxz59_2⟩ := at_T74 (Kd.R_reads' HO_z15003.out).2.2 x17_5 pz59 qz59
            obtain rfl : adz52 = adz59 := (by injection ez59)
            replace pz59 := eq_true pz59
            replace qz59 := eq_true qz59
            refine start_ (n := 16) (S := fun w' => w'.cell? ⟨gbz14, 0, none⟩ = some (.string xz15000_1) ∧ w'.cell? ⟨gbz14, 1, none⟩ = some (.int .i64 xz15001_1) ∧ w'.cell? ⟨gbz14, 2, none⟩ = some (.slice Ao83 xz15002_1.length co83) ∧ w'.cell? ⟨gbz14, 3, none⟩ = some (.slice (some adz52) xz15003_1.length co86) ∧ w'.cell? ⟨gbz14, 4, none⟩ = some (.bool xz15004_1) ∧ w'.cell? (adz52.add ((x16_4).toNat * 3)) = some (.string ((rd_T74 xz15003_1 x16_4).f0)) ∧ w'.cell? ⟨(adz52.add ((x16_4).toNat * 3)).block, (adz52.add ((x16_4).toNat * 3)).off + 1, none⟩ = some (.string ((rd_T74 xz15003_1 x16_4).f1)) ∧ w'.cell? ⟨(adz52.add ((x16_4).toNat * 3)).block, (adz52.add ((x16_4).toNat * 3)).off + 2, none⟩ = some (.string ((rd_T74 xz15003_1 x16_4).f2)) ∧ w'.cell? (adz52.add ((x17_5).toNat * 3)) = some (.string ((rd_T74 xz15003_1 x17_5).f0)) ∧ w'.cell? ⟨(adz52.add ((x17_5).toNat * 3)).block, (adz52.add ((x17_5).toNat * 3)).off + 1, none⟩ = some (.string ((rd_T74 xz15003_1 x17_5).f1)) ∧ w'.cell? ⟨(adz52.add ((x17_5).toNat * 3)).block, (adz52.add ((x17_5).toNat * 3)).off + 2, none⟩ = some (.string ((rd_T74 xz15003_1 x17_5).f2))) (ds := []) #[false, false, false, false, false, false, false, false, false, false, false, false, false, false, false, false] (by kernel_rfl) rfl rfl ⟨(blk_cell BKz14.out 0).trans rfl, (blk_cell BKz14.out 1).trans rfl, (blk_cell BKz14.out 2).trans rfl, (blk_cell BKz14.out 3).trans rfl, (blk_cell BKz14.out 4).trans rfl, hxz58_0, hxz58_1, hxz58_2, hxz59_0, hxz59_1, hxz59_2⟩ (fun hHeld => ?_); refine with_tabW columbariumlaw08_IdealClash.tab31 columbariumlaw08_IdealClash.bits31 (fun HT_ HW_ => ?_)
            generalize w104.drew = w105 at HO_z15002 HO_z15003 BKz14 HB hxz58_0 hxz58_1 hxz58_2 hxz59_0 hxz59_1 hxz59_2 hHeld ⊢
            refine pu_ 0 (some 156) HT_ rfl rfl (by kernel_rfl) (fun _ _ _ h => h) (.inl ⟨by rfl, by intro w'; go_simp; with_reducible rfl⟩) (by simp only [Act.put, sa_, s0_, s1_, i64_w, i32_w]; rfl) ?_
            refine pu_ 1 (some 157) HT_ rfl rfl (by kernel_rfl) (fun _ _ _ h => h) (.inl ⟨by rfl, by intro w'; go_simp; with_reducible rfl⟩) (by simp only [Act.put, sa_, s0_, s1_, i64_w, i32_w]; rfl) ?_
            refine pu_ 2 (some 158) HT_ rfl rfl (by kernel_rfl) (fun _ _ _ h => h) (.inl ⟨by rfl, by intro w'; go_simp; with_reducible rfl⟩) (by simp only [Act.put, sa_, s0_, s1_, i64_w, i32_w]; rfl) ?_
            refine pu_ 4 (some 160) HT_ rfl rfl (by kernel_rfl) (fun _ _ _ h => h) (.inl ⟨by rfl, by intro w'; go_simp; with_reducible rfl⟩) (by simp only [Act.put, sa_, s0_, s1_, i64_w, i32_w]; rfl) ?_
            refine pu_ 8 (some 164) HT_ rfl rfl (by kernel_rfl) (fun _ _ _ h => h) (.inl ⟨by rfl, by intro w'; go_simp; with_reducible rfl⟩) (by simp only [Act.put, sa_, s0_, s1_, i64_w, i32_w]; rfl) ?_
            refine pu_ 10 (some 166) HT_ rfl rfl (by kernel_rfl) (fun _ _ _ h => h) (.inl ⟨by rfl, by intro w'; go_simp; with_reducible rfl⟩) (by simp only [Act.put, sa_, s0_, s1_, i64_w, i32_w]; rfl) ?_
            refine tk_ 3 (some 159) HT_ HW_ rfl rfl (by kernel_rfl) (fun _ _ _ h => h) (.inl ⟨by rfl, by rintro w' ⟨s0, s1, s2, s3, s4, s5, s6, s7, s8, s9, s10⟩; go_simp; with_reducible rfl⟩) hHeld (by simp only [Act.put, sa_, s0_, s1_, i64_w, i32_w]; rfl) ?_
            refine pu_ 5 (some 161) HT_ rfl rfl (by kernel_rfl) (fun _ _ _ h => h) (.inl ⟨by rfl, by intro w'; go_simp; with_reducible rfl⟩) (by simp only [Act.put, sa_, s0_, s1_, i64_w, i32_w]; rfl) ?_
            refine pu_ 6 (some 162) HT_ rfl rfl (by kernel_rfl) (fun _ _ _ h => h) (.inl ⟨by rfl, by intro w'; go_simp; with_reducible rfl⟩) (by simp only [Act.put, sa_, s0_, s1_, i64_w, i32_w]; rfl) ?_
            refine tk_ 7 (some 163) HT_ HW_ rfl rfl (by kernel_rfl) (fun _ _ _ h => h) (.inl ⟨by rfl, by rintro w' ⟨s0, s1, s2, s3, s4, s5, s6, s7, s8, s9, s10⟩; go_simp; with_reducible rfl⟩) hHeld (by simp only [Act.put, sa_, s0_, s1_, i64_w, i32_w]; rfl) ?_
            refine tk_ 9 (some 165) HT_ HW_ rfl rfl (by kernel_rfl) (fun _ _ _ h => h) (.inl ⟨by rfl, by rintro w' ⟨s0, s1, s2, s3, s4, s5, s6, s7, s8, s9, s10⟩; go_simp; with_reducible rfl⟩) hHeld (by simp only [Act.put, sa_, s0_, s1_, i64_w, i32_w]; rfl) ?_
            refine pu_ 11 (some 167) HT_ rfl rfl (by kernel_rfl) (fun _ _ _ h => h) (.inl ⟨by rfl, by intro w'; go_simp; with_reducible rfl⟩) (by simp only [Act.put, sa_, s0_, s1_, i64_w, i32_w]; rfl) ?_
            refine pu_ 12 (some 168) HT_ rfl rfl (by kernel_rfl) (fun _ _ _ h => h) (.inl ⟨by rfl, by intro w'; go_simp; with_reducible rfl⟩) (by simp only [Act.put, sa_, s0_, s1_, i64_w, i32_w]; rfl) ?_
            refine tk_ 13 (some 169) HT_ HW_ rfl rfl (by kernel_rfl) (fun _ _ _ h => h) (.inl ⟨by rfl, by rintro w' ⟨s0, s1, s2, s3, s4, s5, s6, s7, s8, s9, s10⟩; go_simp; with_reducible rfl⟩) hHeld (by simp only [Act.put, sa_, s0_, s1_, i64_w, i32_w]; rfl) ?_
            refine pu_ 14 (some 170) HT_ rfl rfl (by kernel_rfl) (fun _ _ _ h => h) (.inl ⟨by rfl, by intro w'; go_simp; with_reducible rfl⟩) (by simp only [Act.put, sa_, s0_, s1_, i64_w, i32_w]; rfl) ?_
            refine pu_ 15 (some 171) HT_ rfl rfl (by kernel_rfl) (fun _ _ _ h => h) (.inl ⟨by rfl, by intro w'; go_simp; with_reducible rfl⟩) (by simp only [Act.put, sa_, s0_, s1_, i64_w, i32_w]; rfl) ?_
            refine done_ (done_of HT_.out (by kernel_rfl)) ?_
            try go_wp2
            go_roundg k5
            case measure => have := HK1.out; have := HJ13.out; have := HK3.out; have := HK4.out; have := HK5.out; omega
            case rel => exact ⟨((((rd_T74 xz15003_1 x16_4).f2).toList == ((rd_T74 xz15003_1 x17_5).f2).toList)), (wrap64 (x17_5 + 1)), (by first | rfl | (simp; done) | (simp [*]; done)), (by first | rfl | (simp; done) | (simp [*]; done)), H', ⟨by have := HK1.out; have := HJ13.out; have := HK3.out; have := HK4.out; have := HK5.out; omega⟩, ⟨by (with_reducible repeat (first | apply Kd.R_alloc | apply Kd.R_drewN | apply Kd.R_drew)); exact HO_z15002.out⟩, ⟨by (with_reducible repeat (first | apply Kd.R_alloc | apply Kd.R_drewN | apply Kd.R_drew)); exact HO_z15003.out⟩, ⟨by (with_reducible repeat (first | refine blk_drewN ?_ _ | refine blk_drew ?_ | refine blk_alloc ?_ _)); exact BKz14.out⟩, ⟨by repeat (first | (with_reducible first | exact HB.out | apply below_alloc | apply pw_below_drewN | apply below_drew1 | refine below_set ?_ GEz14.out) | exact HB.out)⟩⟩
           subst c92
           have H1 : (if ((rd_T74 xz15003_1 x16_4).f0).toList = ((rd_T74 xz15003_1 x17_5).f0).toList then (if ((rd_T74 xz15003_1 x16_4).f1).toList = ((rd_T74 xz15003_1 x17_5).f1).toList then (none) else (columbariumlaw08_IdealClash.l4 k5 tz1 tz13 true x16_4 (wrap64 (x17_5 + 1)) xz15000_1 xz15001_1 xz15002_1 xz15003_1 xz15004_1)) else (columbariumlaw08_IdealClash.l4 k5 tz1 tz13 true x16_4 (wrap64 (x17_5 + 1)) xz15000_1 xz15001_1 xz15002_1 xz15003_1 xz15004_1)) = some r := by rw [if_pos rfl] at H; exact H
           clear H
           have H := H1
           clear H1
           by_cases c93 : ((rd_T74 xz15003_1 x16_4).f0).toList = ((rd_T74 xz15003_1 x17_5).f0).toList
           rotate_left
           ·rw [if_neg c93] at H
            have c93b0 : (((rd_T74 xz15003_1 x16_4).f0).toList == ((rd_T74 xz15003_1 x17_5).f0).toList) = false := beq_eq_false_iff_ne.mpr c93
            have c93b1 : (((rd_T74 xz15003_1 x16_4).f0).toList != ((rd_T74 xz15003_1 x17_5).f0).toList) = true := bne_iff_ne.mpr c93
            have H' := am H
            clear H
            try go_wp2
            have n0_ := am (Kd.R_drew HO_z15002.out)
            have n1_ := am (Kd.R_drew HO_z15003.out)
            have n2_ := am (blk_drew BKz14.out)
            have n3_ := am (below_drew1 HB.out)
            clear HO_z15002 HO_z15003 BKz14 HB; have HO_z15002 := n0_; have HO_z15003 := n1_; have BKz14 := n2_; have HB := n3_; clear n0_ n1_ n2_ n3_
            have pz52 : 0 ≤ (x16_4 : Int) := of_decide_eq_true (by first | (with_reducible assumption) | assumption)
            have qz52 : x16_4 < (xz15003_1.length : Int) := of_decide_eq_true (by first | (with_reducible assumption) | assumption)
            obtain ⟨adz52, ez52, hxz52_0, hxz52_1, hxz52_2⟩ := at_T74 (Kd.R_reads' HO_z15003.out).2.2 x16_4 pz52 qz52
            cases ez52
            replace pz52 := eq_true pz52
            replace qz52 := eq_true qz52
            have pz53 : 0 ≤ (x17_5 : Int) := of_decide_eq_true (by first | (with_reducible assumption) | assumption)
            have qz53 : x17_5 < (xz15003_1.length : Int) := of_decide_eq_true (by first | (with_reducible assumption) | assumption)
            obtain ⟨adz53, ez53, hxz53_0, hxz53_1, hxz53_2⟩ := at_T74 (Kd.R_reads' HO_z15003.out).2.2 x17_5 pz53 qz53
            obtain rfl : adz52 = adz53 := (by injection ez53)
            replace pz53 := eq_true pz53
            replace qz53 := eq_true qz53
            refine start_ (n := 14) (S := fun w' => w'.cell? ⟨gbz14, 0, none⟩ = some (.string xz15000_1) ∧ w'.cell? ⟨gbz14, 1, none⟩ = some (.int .i64 xz15001_1) ∧ w'.cell? ⟨gbz14, 2, none⟩ = some (.slice Ao83 xz15002_1.length co83) ∧ w'.cell? ⟨gbz14, 3, none⟩ = some (.slice (some adz52) xz15003_1.length co86) ∧ w'.cell? ⟨gbz14, 4, none⟩ = some (.bool xz15004_1) ∧ w'.cell? (adz52.add ((x16_4).toNat * 3)) = some (.string ((rd_T74 xz15003_1 x16_4).f0)) ∧ w'.cell? ⟨(adz52.add ((x16_4).toNat * 3)).block, (adz52.add ((x16_4).toNat * 3)).off + 1, none⟩ = some (.string ((rd_T74 xz15003_1 x16_4).f1)) ∧ w'.cell? ⟨(adz52.add ((x16_4).toNat * 3)).block, (adz52.add ((x16_4).toNat * 3)).off + 2, none⟩ = some (.string ((rd_T74 xz15003_1 x16_4).f2)) ∧ w'.cell? (adz52.add ((x17_5).toNat * 3)) = some (.string ((rd_T74 xz15003_1 x17_5).f0)) ∧ w'.cell? ⟨(adz52.add ((x17_5).toNat * 3)).block, (adz52.add ((x17_5).toNat * 3)).off + 1, none⟩ = some (.string ((rd_T74 xz15003_1 x17_5).f1)) ∧ w'.cell? ⟨(adz52.add ((x17_5).toNat * 3)).block, (adz52.add ((x17_5).toNat * 3)).off + 2, none⟩ = some (.string ((rd_T74 xz15003_1 x17_5).f2))) (ds := []) #[false, false, false, false, false, false, false, false, false, false, false, false, false, false] (by kernel_rfl) rfl rfl ⟨(blk_cell BKz14.out 0).trans rfl, (blk_cell BKz14.out 1).trans rfl, (blk_cell BKz14.out 2).trans rfl, (blk_cell BKz14.out 3).trans rfl, (blk_cell BKz14.out 4).trans rfl, hxz52_0, hxz52_1, hxz52_2, hxz53_0, hxz53_1, hxz53_2⟩ (fun hHeld => ?_); refine with_tabW columbariumlaw08_IdealClash.tab29 columbariumlaw08_IdealClash.bits29 (fun HT_ HW_ => ?_)
            generalize wr.drew = w98 at HO_z15002 HO_z15003 BKz14 HB hxz52_0 hxz52_1 hxz52_2 hxz53_0 hxz53_1 hxz53_2 hHeld ⊢
            refine pu_ 0 (some 124) HT_ rfl rfl (by kernel_rfl) (fun _ _ _ h => h) (.inl ⟨by rfl, by intro w'; go_simp; with_reducible rfl⟩) (by simp only [Act.put, sa_, s0_, s1_, i64_w, i32_w]; rfl) ?_
            refine pu_ 2 (some 126) HT_ rfl rfl (by kernel_rfl) (fun _ _ _ h => h) (.inl ⟨by rfl, by intro w'; go_simp; with_reducible rfl⟩) (by simp only [Act.put, sa_, s0_, s1_, i64_w, i32_w]; rfl) ?_
            refine pu_ 6 (some 130) HT_ rfl rfl (by kernel_rfl) (fun _ _ _ h => h) (.inl ⟨by rfl, by intro w'; go_simp; with_reducible rfl⟩) (by simp only [Act.put, sa_, s0_, s1_, i64_w, i32_w]; rfl) ?_
            refine pu_ 8 (some 132) HT_ rfl rfl (by kernel_rfl) (fun _ _ _ h => h) (.inl ⟨by rfl, by intro w'; go_simp; with_reducible rfl⟩) (by simp only [Act.put, sa_, s0_, s1_, i64_w, i32_w]; rfl) ?_
            refine tk_ 1 (some 125) HT_ HW_ rfl rfl (by kernel_rfl) (fun _ _ _ h => h) (.inl ⟨by rfl, by rintro w' ⟨s0, s1, s2, s3, s4, s5, s6, s7, s8, s9, s10⟩; go_simp; with_reducible rfl⟩) hHeld (by simp only [Act.put, sa_, s0_, s1_, i64_w, i32_w]; rfl) ?_
            refine pu_ 3 (some 127) HT_ rfl rfl (by kernel_rfl) (fun _ _ _ h => h) (.inl ⟨by rfl, by intro w'; go_simp; with_reducible rfl⟩) (by simp only [Act.put, sa_, s0_, s1_, i64_w, i32_w]; rfl) ?_
            refine pu_ 4 (some 128) HT_ rfl rfl (by kernel_rfl) (fun _ _ _ h => h) (.inl ⟨by rfl, by intro w'; go_simp; with_reducible rfl⟩) (by simp only [Act.put, sa_, s0_, s1_, i64_w, i32_w]; rfl) ?_
            refine tk_ 5 (some 129) HT_ HW_ rfl rfl (by kernel_rfl) (fun _ _ _ h => h) (.inl ⟨by rfl, by rintro w' ⟨s0, s1, s2, s3, s4, s5, s6, s7, s8, s9, s10⟩; go_simp; with_reducible rfl⟩) hHeld (by simp only [Act.put, sa_, s0_, s1_, i64_w, i32_w]; rfl) ?_
            refine tk_ 7 (some 131) HT_ HW_ rfl rfl (by kernel_rfl) (fun _ _ _ h => h) (.inl ⟨by rfl, by rintro w' ⟨s0, s1, s2, s3, s4, s5, s6, s7, s8, s9, s10⟩; go_simp; with_reducible rfl⟩) hHeld (by simp only [Act.put, sa_, s0_, s1_, i64_w, i32_w]; rfl) ?_
            refine pu_ 9 (some 133) HT_ rfl rfl (by kernel_rfl) (fun _ _ _ h => h) (.inl ⟨by rfl, by intro w'; go_simp; with_reducible rfl⟩) (by simp only [Act.put, sa_, s0_, s1_, i64_w, i32_w]; rfl) ?_
            refine pu_ 10 (some 134) HT_ rfl rfl (by kernel_rfl) (fun _ _ _ h => h) (.inl ⟨by rfl, by intro w'; go_simp; with_reducible rfl⟩) (by simp only [Act.put, sa_, s0_, s1_, i64_w, i32_w]; rfl) ?_
            refine tk_ 11 (some 135) HT_ HW_ rfl rfl (by kernel_rfl) (fun _ _ _ h => h) (.inl ⟨by rfl, by rintro w' ⟨s0, s1, s2, s3, s4, s5, s6, s7, s8, s9, s10⟩; go_simp; with_reducible rfl⟩) hHeld (by simp only [Act.put, sa_, s0_, s1_, i64_w, i32_w]; rfl) ?_
            refine pu_ 12 (some 136) HT_ rfl rfl (by kernel_rfl) (fun _ _ _ h => h) (.inl ⟨by rfl, by intro w'; go_simp; with_reducible rfl⟩) (by simp only [Act.put, sa_, s0_, s1_, i64_w, i32_w]; rfl) ?_
            refine pu_ 13 (some 18) HT_ rfl rfl (by kernel_rfl) (fun _ _ _ h => h) (.inl ⟨by rfl, by intro w'; go_simp; with_reducible rfl⟩) (by simp only [Act.put, sa_, s0_, s1_, i64_w, i32_w]; rfl) ?_
            refine done_ (done_of HT_.out (by kernel_rfl)) ?_
            try go_wp2
            have n0_ := am (Kd.R_drew HO_z15002.out)
            have n1_ := am (Kd.R_drew HO_z15003.out)
            have n2_ := am (blk_drew BKz14.out)
            have n3_ := am (below_drew1 HB.out)
            clear HO_z15002 HO_z15003 BKz14 HB; have HO_z15002 := n0_; have HO_z15003 := n1_; have BKz14 := n2_; have HB := n3_; clear n0_ n1_ n2_ n3_
            refine start_ (n := 20) (S := fun w' => True) (ds := []) #[false, false, false, false, false, false, false, false, false, false, false, false, false, false, false, false, false, false, false, false] (by kernel_rfl) rfl rfl trivial (fun hHeld => ?_); refine with_tabW columbariumlaw08_IdealClash.tab30 columbariumlaw08_IdealClash.bits30 (fun HT_ HW_ => ?_)
            generalize w98.drew = w99 at HO_z15002 HO_z15003 BKz14 HB hHeld ⊢
            refine pu_ 0 (some 137) HT_ rfl rfl (by kernel_rfl) (fun _ _ _ h => h) (.inl ⟨by rfl, by intro w'; go_simp; with_reducible rfl⟩) (by simp only [Act.put, sa_, s0_, s1_, i64_w, i32_w]; rfl) ?_
            refine pu_ 1 (some 138) HT_ rfl rfl (by kernel_rfl) (fun _ _ _ h => h) (.inl ⟨by rfl, by intro w'; go_simp; with_reducible rfl⟩) (by simp only [Act.put, sa_, s0_, s1_, i64_w, i32_w]; rfl) ?_
            refine pure_ (i := 2) (N := some 139) (v := undef) (a' := ?_) #[true, true, true, false, false, false, false, false, false, false, false, false, false, false, false, false, false, false, false, false] rfl rfl (any_of HT_.out (by kernel_rfl)) (fun _ _ _ h => h) (Or.inr ⟨by rfl, rfl⟩) ?_ ?_
            rotate_left
            ·simp only [Act.put, List.setIfInBounds_toArray, List.set_cons_zero, List.set_cons_succ, i64_w, i32_w]
             rfl
            refine pure_ (i := 3) (N := some 140) (v := undef) (a' := ?_) #[true, true, true, true, false, false, false, false, false, false, false, false, false, false, false, false, false, false, false, false] rfl rfl (any_of HT_.out (by kernel_rfl)) (fun _ _ _ h => h) (Or.inr ⟨by rfl, rfl⟩) ?_ ?_
            rotate_left
            ·simp only [Act.put, List.setIfInBounds_toArray, List.set_cons_zero, List.set_cons_succ, i64_w, i32_w]
             rfl
            refine pure_ (i := 4) (N := some 141) (v := undef) (a' := ?_) #[true, true, true, true, true, false, false, false, false, false, false, false, false, false, false, false, false, false, false, false] rfl rfl (any_of HT_.out (by kernel_rfl)) (fun _ _ _ h => h) (Or.inr ⟨by rfl, rfl⟩) ?_ ?_
            rotate_left
            ·simp only [Act.put, List.setIfInBounds_toArray, List.set_cons_zero, List.set_cons_succ, i64_w, i32_w]
             rfl
            refine pure_ (i := 5) (N := some 142) (v := undef) (a' := ?_) #[true, true, true, true, true, true, false, false, false, false, false, false, false, false, false, false, false, false, false, false] rfl rfl (any_of HT_.out (by kernel_rfl)) (fun _ _ _ h => h) (Or.inr ⟨by rfl, rfl⟩) ?_ ?_
            rotate_left
            ·simp only [Act.put, List.setIfInBounds_toArray, List.set_cons_zero, List.set_cons_succ, i64_w, i32_w]
             rfl
            refine pure_ (i := 6) (N := some 143) (v := undef) (a' := ?_) #[true, true, true, true, true, true, true, false, false, false, false, false, false, false, false, false, false, false, false, false] rfl rfl (any_of HT_.out (by kernel_rfl)) (fun _ _ _ h => h) (Or.inr ⟨by rfl, rfl⟩) ?_ ?_
            rotate_left
            ·simp only [Act.put, List.setIfInBounds_toArray, List.set_cons_zero, List.set_cons_succ, i64_w, i32_w]
             rfl
            refine pure_ (i := 7) (N := some 144) (v := undef) (a' := ?_) #[true, true, true, true, true, true, true, true, false, false, false, false, false, false, false, false, false, false, false, false] rfl rfl (any_of HT_.out (by kernel_rfl)) (fun _ _ _ h => h) (Or.inr ⟨by rfl, rfl⟩) ?_ ?_
            rotate_left
            ·simp only [Act.put, List.setIfInBounds_toArray, List.set_cons_zero, List.set_cons_succ, i64_w, i32_w]
             rfl
            refine pure_ (i := 8) (N := some 145) (v := undef) (a' := ?_) #[true, true, true, true, true, true, true, true, true, false, false, false, false, false, false, false, false, false, false, false] rfl rfl (any_of HT_.out (by kernel_rfl)) (fun _ _ _ h => h) (Or.inr ⟨by rfl, rfl⟩) ?_ ?_
            rotate_left
            ·simp only [Act.put, List.setIfInBounds_toArray, List.set_cons_zero, List.set_cons_succ, i64_w, i32_w]
             rfl
            refine pure_ (i := 9) (N := some 146) (v := undef) (a' := ?_) #[true, true, true, true, true, true, true, true, true, true, false, false, false, false, false, false, false, false, false, false] rfl rfl (any_of HT_.out (by kernel_rfl)) (fun _ _ _ h => h) (Or.inr ⟨by rfl, rfl⟩) ?_ ?_
            rotate_left
            ·simp only [Act.put, List.setIfInBounds_toArray, List.set_cons_zero, List.set_cons_succ, i64_w, i32_w]
             rfl
            refine pure_ (i := 10) (N := some 147) (v := undef) (a' := ?_) #[true, true, true, true, true, true, true, true, true, true, true, false, false, false, false, false, false, false, false, false] rfl rfl (any_of HT_.out (by kernel_rfl)) (fun _ _ _ h => h) (Or.inr ⟨by rfl, rfl⟩) ?_ ?_
            rotate_left
            ·simp only [Act.put, List.setIfInBounds_toArray, List.set_cons_zero, List.set_cons_succ, i64_w, i32_w]
             rfl
            refine pure_ (i := 11) (N := some 148) (v := undef) (a' := ?_) #[true, true, true, true, true, true, true, true, true, true, true, true, false, false, false, false, false, false, false, false] rfl rfl (any_of HT_.out (by kernel_rfl)) (fun _ _ _ h => h) (Or.inr ⟨by rfl, rfl⟩) ?_ ?_
            rotate_left
            ·simp only [Act.put, List.setIfInBounds_toArray, List.set_cons_zero, List.set_cons_succ, i64_w, i32_w]
             rfl
            refine pure_ (i := 12) (N := some 149) (v := undef) (a' := ?_) #[true, true, true, true, true, true, true, true, true, true, true, true, true, false, false, false, false, false, false, false] rfl rfl (any_of HT_.out (by kernel_rfl)) (fun _ _ _ h => h) (Or.inr ⟨by rfl, rfl⟩) ?_ ?_
            rotate_left
            ·simp only [Act.put, List.setIfInBounds_toArray, List.set_cons_zero, List.set_cons_succ, i64_w, i32_w]
             rfl
            refine pure_ (i := 13) (N := some 150) (v := undef) (a' := ?_) #[true, true, true, true, true, true, true, true, true, true, true, true, true, true, false, false, false, false, false, false] rfl rfl (any_of HT_.out (by kernel_rfl)) (fun _ _ _ h => h) (Or.inr ⟨by rfl, rfl⟩) ?_ ?_
            rotate_left
            ·simp only [Act.put, List.setIfInBounds_toArray, List.set_cons_zero, List.set_cons_succ, i64_w, i32_w]
             rfl
            refine pure_ (i := 14) (N := some 151) (v := undef) (a' := ?_) #[true, true, true, true, true, true, true, true, true, true, true, true, true, true, true, false, false, false, false, false] rfl rfl (any_of HT_.out (by kernel_rfl)) (fun _ _ _ h => h) (Or.inr ⟨by rfl, rfl⟩) ?_ ?_
            rotate_left
            ·simp only [Act.put, List.setIfInBounds_toArray, List.set_cons_zero, List.set_cons_succ, i64_w, i32_w]
             rfl
            refine pure_ (i := 15) (N := some 152) (v := undef) (a' := ?_) #[true, true, true, true, true, true, true, true, true, true, true, true, true, true, true, true, false, false, false, false] rfl rfl (any_of HT_.out (by kernel_rfl)) (fun _ _ _ h => h) (Or.inr ⟨by rfl, rfl⟩) ?_ ?_
            rotate_left
            ·simp only [Act.put, List.setIfInBounds_toArray, List.set_cons_zero, List.set_cons_succ, i64_w, i32_w]
             rfl
            refine pure_ (i := 16) (N := some 153) (v := undef) (a' := ?_) #[true, true, true, true, true, true, true, true, true, true, true, true, true, true, true, true, true, false, false, false] rfl rfl (any_of HT_.out (by kernel_rfl)) (fun _ _ _ h => h) (Or.inr ⟨by rfl, rfl⟩) ?_ ?_
            rotate_left
            ·simp only [Act.put, List.setIfInBounds_toArray, List.set_cons_zero, List.set_cons_succ, i64_w, i32_w]
             rfl
            refine pure_ (i := 17) (N := some 154) (v := undef) (a' := ?_) #[true, true, true, true, true, true, true, true, true, true, true, true, true, true, true, true, true, true, false, false] rfl rfl (any_of HT_.out (by kernel_rfl)) (fun _ _ _ h => h) (Or.inr ⟨by rfl, rfl⟩) ?_ ?_
            rotate_left
            ·simp only [Act.put, List.setIfInBounds_toArray, List.set_cons_zero, List.set_cons_succ, i64_w, i32_w]
             rfl
            refine pu_ 18 (some 155) HT_ rfl rfl (by kernel_rfl) (fun _ _ _ h => h) (.inl ⟨by rfl, by intro w'; go_simp; with_reducible rfl⟩) (by simp only [Act.put, sa_, s0_, s1_, i64_w, i32_w]; rfl) ?_
            refine pu_ 19 (some 13) HT_ rfl rfl (by kernel_rfl) (fun _ _ _ h => h) (.inl ⟨by rfl, by intro w'; go_simp; with_reducible rfl⟩) (by simp only [Act.put, sa_, s0_, s1_, i64_w, i32_w]; rfl) ?_
            refine done_ (done_of HT_.out (by kernel_rfl)) ?_
            try go_wp2
            have n0_ := am (Kd.R_drew HO_z15002.out)
            have n1_ := am (Kd.R_drew HO_z15003.out)
            have n2_ := am (blk_drew BKz14.out)
            have n3_ := am (below_drew1 HB.out)
            clear HO_z15002 HO_z15003 BKz14 HB; have HO_z15002 := n0_; have HO_z15003 := n1_; have BKz14 := n2_; have HB := n3_; clear n0_ n1_ n2_ n3_
            refine start_ (n := 16) (S := fun w' => True) (ds := []) #[false, false, false, false, false, false, false, false, false, false, false, false, false, false, false, false] (by kernel_rfl) rfl rfl trivial (fun hHeld => ?_); refine with_tabW columbariumlaw08_IdealClash.tab31 columbariumlaw08_IdealClash.bits31 (fun HT_ HW_ => ?_)
            generalize w99.drew = w100 at HO_z15002 HO_z15003 BKz14 HB hHeld ⊢
            refine pu_ 0 (some 156) HT_ rfl rfl (by kernel_rfl) (fun _ _ _ h => h) (.inl ⟨by rfl, by intro w'; go_simp; with_reducible rfl⟩) (by simp only [Act.put, sa_, s0_, s1_, i64_w, i32_w]; rfl) ?_
            refine pu_ 1 (some 157) HT_ rfl rfl (by kernel_rfl) (fun _ _ _ h => h) (.inl ⟨by rfl, by intro w'; go_simp; with_reducible rfl⟩) (by simp only [Act.put, sa_, s0_, s1_, i64_w, i32_w]; rfl) ?_
            refine pure_ (i := 2) (N := some 158) (v := undef) (a' := ?_) #[true, true, true, false, false, false, false, false, false, false, false, false, false, false, false, false] rfl rfl (any_of HT_.out (by kernel_rfl)) (fun _ _ _ h => h) (Or.inr ⟨by rfl, rfl⟩) ?_ ?_
            rotate_left
            ·simp only [Act.put, List.setIfInBounds_toArray, List.set_cons_zero, List.set_cons_succ, i64_w, i32_w]
             rfl
            refine pure_ (i := 3) (N := some 159) (v := undef) (a' := ?_) #[true, true, true, true, false, false, false, false, false, false, false, false, false, false, false, false] rfl rfl (any_of HT_.out (by kernel_rfl)) (fun _ _ _ h => h) (Or.inr ⟨by rfl, rfl⟩) ?_ ?_
            rotate_left
            ·simp only [Act.put, List.setIfInBounds_toArray, List.set_cons_zero, List.set_cons_succ, i64_w, i32_w]
             rfl
            refine pure_ (i := 4) (N := some 160) (v := undef) (a' := ?_) #[true, true, true, true, true, false, false, false, false, false, false, false, false, false, false, false] rfl rfl (any_of HT_.out (by kernel_rfl)) (fun _ _ _ h => h) (Or.inr ⟨by rfl, rfl⟩) ?_ ?_
            rotate_left
            ·simp only [Act.put, List.setIfInBounds_toArray, List.set_cons_zero, List.set_cons_succ, i64_w, i32_w]
             rfl
            refine pure_ (i := 5) (N := some 161) (v := undef) (a' := ?_) #[true, true, true, true, true, true, false, false, false, false, false, false, false, false, false, false] rfl rfl (any_of HT_.out (by kernel_rfl)) (fun _ _ _ h => h) (Or.inr ⟨by rfl, rfl⟩) ?_ ?_
            rotate_left
            ·simp only [Act.put, List.setIfInBounds_toArray, List.set_cons_zero, List.set_cons_succ, i64_w, i32_w]
             rfl
            refine pure_ (i := 6) (N := some 162) (v := undef) (a' := ?_) #[true, true, true, true, true, true, true, false, false, false, false, false, false, false, false, false] rfl rfl (any_of HT_.out (by kernel_rfl)) (fun _ _ _ h => h) (Or.inr ⟨by rfl, rfl⟩) ?_ ?_
            rotate_left
            ·simp only [Act.put, List.setIfInBounds_toArray, List.set_cons_zero, List.set_cons_succ, i64_w, i32_w]
             rfl
            refine pure_ (i := 7) (N := some 163) (v := undef) (a' := ?_) #[true, true, true, true, true, true, true, true, false, false, false, false, false, false, false, false] rfl rfl (any_of HT_.out (by kernel_rfl)) (fun _ _ _ h => h) (Or.inr ⟨by rfl, rfl⟩) ?_ ?_
            rotate_left
            ·simp only [Act.put, List.setIfInBounds_toArray, List.set_cons_zero, List.set_cons_succ, i64_w, i32_w]
             rfl
            refine pure_ (i := 8) (N := some 164) (v := undef) (a' := ?_) #[true, true, true, true, true, true, true, true, true, false, false, false, false, false, false, false] rfl rfl (any_of HT_.out (by kernel_rfl)) (fun _ _ _ h => h) (Or.inr ⟨by rfl, rfl⟩) ?_ ?_
            rotate_left
            ·simp only [Act.put, List.setIfInBounds_toArray, List.set_cons_zero, List.set_cons_succ, i64_w, i32_w]
             rfl
            refine pure_ (i := 9) (N := some 165) (v := undef) (a' := ?_) #[true, true, true, true, true, true, true, true, true, true, false, false, false, false, false, false] rfl rfl (any_of HT_.out (by kernel_rfl)) (fun _ _ _ h => h) (Or.inr ⟨by rfl, rfl⟩) ?_ ?_
            rotate_left
            ·simp only [Act.put, List.setIfInBounds_toArray, List.set_cons_zero, List.set_cons_succ, i64_w, i32_w]
             rfl
            refine pure_ (i := 10) (N := some 166) (v := undef) (a' := ?_) #[true, true, true, true, true, true, true, true, true, true, true, false, false, false, false, false] rfl rfl (any_of HT_.out (by kernel_rfl)) (fun _ _ _ h => h) (Or.inr ⟨by rfl, rfl⟩) ?_ ?_
            rotate_left
            ·simp only [Act.put, List.setIfInBounds_toArray, List.set_cons_zero, List.set_cons_succ, i64_w, i32_w]
             rfl
            refine pure_ (i := 11) (N := some 167) (v := undef) (a' := ?_) #[true, true, true, true, true, true, true, true, true, true, true, true, false, false, false, false] rfl rfl (any_of HT_.out (by kernel_rfl)) (fun _ _ _ h => h) (Or.inr ⟨by rfl, rfl⟩) ?_ ?_
            rotate_left
            ·simp only [Act.put, List.setIfInBounds_toArray, List.set_cons_zero, List.set_cons_succ, i64_w, i32_w]
             rfl
            refine pure_ (i := 12) (N := some 168) (v := undef) (a' := ?_) #[true, true, true, true, true, true, true, true, true, true, true, true, true, false, false, false] rfl rfl (any_of HT_.out (by kernel_rfl)) (fun _ _ _ h => h) (Or.inr ⟨by rfl, rfl⟩) ?_ ?_
            rotate_left
            ·simp only [Act.put, List.setIfInBounds_toArray, List.set_cons_zero, List.set_cons_succ, i64_w, i32_w]
             rfl
            refine pure_ (i := 13) (N := some 169) (v := undef) (a' := ?_) #[true, true, true, true, true, true, true, true, true, true, true, true, true, true, false, false] rfl rfl (any_of HT_.out (by kernel_rfl)) (fun _ _ _ h => h) (Or.inr ⟨by rfl, rfl⟩) ?_ ?_
            rotate_left
            ·simp only [Act.put, List.setIfInBounds_toArray, List.set_cons_zero, List.set_cons_succ, i64_w, i32_w]
             rfl
            refine pure_ (i := 14) (N := some 170) (v := undef) (a' := ?_) #[true, true, true, true, true, true, true, true, true, true, true, true, true, true, true, false] rfl rfl (any_of HT_.out (by kernel_rfl)) (fun _ _ _ h => h) (Or.inr ⟨by rfl, rfl⟩) ?_ ?_
            rotate_left
            ·simp only [Act.put, List.setIfInBounds_toArray, List.set_cons_zero, List.set_cons_succ, i64_w, i32_w]
             rfl
            refine pu_ 15 (some 171) HT_ rfl rfl (by kernel_rfl) (fun _ _ _ h => h) (.inl ⟨by rfl, by intro w'; go_simp; with_reducible rfl⟩) (by simp only [Act.put, sa_, s0_, s1_, i64_w, i32_w]; rfl) ?_
            refine done_ (done_of HT_.out (by kernel_rfl)) ?_
            try go_wp2
            go_roundg k5
            case measure => have := HK1.out; have := HJ13.out; have := HK3.out; have := HK4.out; have := HK5.out; omega
            case rel => exact ⟨(true), (wrap64 (x17_5 + 1)), (by first | rfl | (simp; done) | (simp [*]; done)), (by first | rfl | (simp; done) | (simp [*]; done)), H', ⟨by have := HK1.out; have := HJ13.out; have := HK3.out; have := HK4.out; have := HK5.out; omega⟩, ⟨by (with_reducible repeat (first | apply Kd.R_alloc | apply Kd.R_drewN | apply Kd.R_drew)); exact HO_z15002.out⟩, ⟨by (with_reducible repeat (first | apply Kd.R_alloc | apply Kd.R_drewN | apply Kd.R_drew)); exact HO_z15003.out⟩, ⟨by (with_reducible repeat (first | refine blk_drewN ?_ _ | refine blk_drew ?_ | refine blk_alloc ?_ _)); exact BKz14.out⟩, ⟨by repeat (first | (with_reducible first | exact HB.out | apply below_alloc | apply pw_below_drewN | apply below_drew1 | refine below_set ?_ GEz14.out) | exact HB.out)⟩⟩
           rw [if_pos c93] at H
           have c93b0 : (((rd_T74 xz15003_1 x16_4).f0).toList == ((rd_T74 xz15003_1 x17_5).f0).toList) = true := beq_iff_eq.mpr c93
           have c93b1 : (((rd_T74 xz15003_1 x16_4).f0).toList != ((rd_T74 xz15003_1 x17_5).f0).toList) = false := bne_eq_false_iff_eq.mpr c93
           clear c93
           by_cases c94 : ((rd_T74 xz15003_1 x16_4).f1).toList = ((rd_T74 xz15003_1 x17_5).f1).toList
           ·rw [if_pos c94] at H
            exact absurd H (by simp)
           rw [if_neg c94] at H
           have c94b0 : (((rd_T74 xz15003_1 x16_4).f1).toList == ((rd_T74 xz15003_1 x17_5).f1).toList) = false := beq_eq_false_iff_ne.mpr c94
           have c94b1 : (((rd_T74 xz15003_1 x16_4).f1).toList != ((rd_T74 xz15003_1 x17_5).f1).toList) = true := bne_iff_ne.mpr c94
           have H' := am H
           clear H
           try go_wp2
           have n0_ := am (Kd.R_drew HO_z15002.out)
           have n1_ := am (Kd.R_drew HO_z15003.out)
           have n2_ := am (blk_drew BKz14.out)
           have n3_ := am (below_drew1 HB.out)
           clear HO_z15002 HO_z15003 BKz14 HB; have HO_z15002 := n0_; have HO_z15003 := n1_; have BKz14 := n2_; have HB := n3_; clear n0_ n1_ n2_ n3_
           have pz52 : 0 ≤ (x16_4 : Int) := of_decide_eq_true (by first | (with_reducible assumption) | assumption)
           have qz52 : x16_4 < (xz15003_1.length : Int) := of_decide_eq_true (by first | (with_reducible assumption) | assumption)
           obtain ⟨adz52, ez52, hxz52_0, hxz52_1, hxz52_2⟩ := at_T74 (Kd.R_reads' HO_z15003.out).2.2 x16_4 pz52 qz52
           cases ez52
           replace pz52 := eq_true pz52
           replace qz52 := eq_true qz52
           have pz53 : 0 ≤ (x17_5 : Int) := of_decide_eq_true (by first | (with_reducible assumption) | assumption)
           have qz53 : x17_5 < (xz15003_1.length : Int) := of_decide_eq_true (by first | (with_reducible assumption) | assumption)
           obtain ⟨adz53, ez53, hxz53_0, hxz53_1, hxz53_2⟩ := at_T74 (Kd.R_reads' HO_z15003.out).2.2 x17_5 pz53 qz53
           obtain rfl : adz52 = adz53 := (by injection ez53)
           replace pz53 := eq_true pz53
           replace qz53 := eq_true qz53
           refine start_ (n := 14) (S := fun w' => w'.cell? ⟨gbz14, 0, none⟩ = some (.string xz15000_1) ∧ w'.cell? ⟨gbz14, 1, none⟩ = some (.int .i64 xz15001_1) ∧ w'.cell? ⟨gbz14, 2, none⟩ = some (.slice Ao83 xz15002_1.length co83) ∧ w'.cell? ⟨gbz14, 3, none⟩ = some (.slice (some adz52) xz15003_1.length co86) ∧ w'.cell? ⟨gbz14, 4, none⟩ = some (.bool xz15004_1) ∧ w'.cell? (adz52.add ((x16_4).toNat * 3)) = some (.string ((rd_T74 xz15003_1 x16_4).f0)) ∧ w'.cell? ⟨(adz52.add ((x16_4).toNat * 3)).block, (adz52.add ((x16_4).toNat * 3)).off + 1, none⟩ = some (.string ((rd_T74 xz15003_1 x16_4).f1)) ∧ w'.cell? ⟨(adz52.add ((x16_4).toNat * 3)).block, (adz52.add ((x16_4).toNat * 3)).off + 2, none⟩ = some (.string ((rd_T74 xz15003_1 x16_4).f2)) ∧ w'.cell? (adz52.add ((x17_5).toNat * 3)) = some (.string ((rd_T74 xz15003_1 x17_5).f0)) ∧ w'.cell? ⟨(adz52.add ((x17_5).toNat * 3)).block, (adz52.add ((x17_5).toNat * 3)).off + 1, none⟩ = some (.string ((rd_T74 xz15003_1 x17_5).f1)) ∧ w'.cell? ⟨(adz52.add ((x17_5).toNat * 3)).block, (adz52.add ((x17_5).toNat * 3)).off + 2, none⟩ = some (.string ((rd_T74 xz15003_1 x17_5).f2))) (ds := []) #[false, false, false, false, false, false, false, false, false, false, false, false, false, false] (by kernel_rfl) rfl rfl ⟨(blk_cell BKz14.out 0).trans rfl, (blk_cell BKz14.out 1).trans rfl, (blk_cell BKz14.out 2).trans rfl, (blk_cell BKz14.out 3).trans rfl, (blk_cell BKz14.out 4).trans rfl, hxz52_0, hxz52_1, hxz52_2, hxz53_0, hxz53_1, hxz53_2⟩ (fun hHeld => ?_); refine with_tabW columbariumlaw08_IdealClash.tab29 columbariumlaw08_IdealClash.bits29 (fun HT_ HW_ => ?_)
           generalize wr.drew = w95 at HO_z15002 HO_z15003 BKz14 HB hxz52_0 hxz52_1 hxz52_2 hxz53_0 hxz53_1 hxz53_2 hHeld ⊢
           refine pu_ 0 (some 124) HT_ rfl rfl (by kernel_rfl) (fun _ _ _ h => h) (.inl ⟨by rfl, by intro w'; go_simp; with_reducible rfl⟩) (by simp only [Act.put, sa_, s0_, s1_, i64_w, i32_w]; rfl) ?_
           refine pu_ 2 (some 126) HT_ rfl rfl (by kernel_rfl) (fun _ _ _ h => h) (.inl ⟨by rfl, by intro w'; go_simp; with_reducible rfl⟩) (by simp only [Act.put, sa_, s0_, s1_, i64_w, i32_w]; rfl) ?_
           refine pu_ 6 (some 130) HT_ rfl rfl (by kernel_rfl) (fun _ _ _ h => h) (.inl ⟨by rfl, by intro w'; go_simp; with_reducible rfl⟩) (by simp only [Act.put, sa_, s0_, s1_, i64_w, i32_w]; rfl) ?_
           refine pu_ 8 (some 132) HT_ rfl rfl (by kernel_rfl) (fun _ _ _ h => h) (.inl ⟨by rfl, by intro w'; go_simp; with_reducible rfl⟩) (by simp only [Act.put, sa_, s0_, s1_, i64_w, i32_w]; rfl) ?_
           refine tk_ 1 (some 125) HT_ HW_ rfl rfl (by kernel_rfl) (fun _ _ _ h => h) (.inl ⟨by rfl, by rintro w' ⟨s0, s1, s2, s3, s4, s5, s6, s7, s8, s9, s10⟩; go_simp; with_reducible rfl⟩) hHeld (by simp only [Act.put, sa_, s0_, s1_, i64_w, i32_w]; rfl) ?_
           refine pu_ 3 (some 127) HT_ rfl rfl (by kernel_rfl) (fun _ _ _ h => h) (.inl ⟨by rfl, by intro w'; go_simp; with_reducible rfl⟩) (by simp only [Act.put, sa_, s0_, s1_, i64_w, i32_w]; rfl) ?_
           refine pu_ 4 (some 128) HT_ rfl rfl (by kernel_rfl) (fun _ _ _ h => h) (.inl ⟨by rfl, by intro w'; go_simp; with_reducible rfl⟩) (by simp only [Act.put, sa_, s0_, s1_, i64_w, i32_w]; rfl) ?_
           refine tk_ 5 (some 129) HT_ HW_ rfl rfl (by kernel_rfl) (fun _ _ _ h => h) (.inl ⟨by rfl, by rintro w' ⟨s0, s1, s2, s3, s4, s5, s6, s7, s8, s9, s10⟩; go_simp; with_reducible rfl⟩) hHeld (by simp only [Act.put, sa_, s0_, s1_, i64_w, i32_w]; rfl) ?_
           refine tk_ 7 (some 131) HT_ HW_ rfl rfl (by kernel_rfl) (fun _ _ _ h => h) (.inl ⟨by rfl, by rintro w' ⟨s0, s1, s2, s3, s4, s5, s6, s7, s8, s9, s10⟩; go_simp; with_reducible rfl⟩) hHeld (by simp only [Act.put, sa_, s0_, s1_, i64_w, i32_w]; rfl) ?_
           refine pu_ 9 (some 133) HT_ rfl rfl (by kernel_rfl) (fun _ _ _ h => h) (.inl ⟨by rfl, by intro w'; go_simp; with_reducible rfl⟩) (by simp only [Act.put, sa_, s0_, s1_, i64_w, i32_w]; rfl) ?_
           refine pu_ 10 (some 134) HT_ rfl rfl (by kernel_rfl) (fun _ _ _ h => h) (.inl ⟨by rfl, by intro w'; go_simp; with_reducible rfl⟩) (by simp only [Act.put, sa_, s0_, s1_, i64_w, i32_w]; rfl) ?_
           refine tk_ 11 (some 135) HT_ HW_ rfl rfl (by kernel_rfl) (fun _ _ _ h => h) (.inl ⟨by rfl, by rintro w' ⟨s0, s1, s2, s3, s4, s5, s6, s7, s8, s9, s10⟩; go_simp; with_reducible rfl⟩) hHeld (by simp only [Act.put, sa_, s0_, s1_, i64_w, i32_w]; rfl) ?_
           refine pu_ 12 (some 136) HT_ rfl rfl (by kernel_rfl) (fun _ _ _ h => h) (.inl ⟨by rfl, by intro w'; go_simp; with_reducible rfl⟩) (by simp only [Act.put, sa_, s0_, s1_, i64_w, i32_w]; rfl) ?_
           refine pu_ 13 (some 18) HT_ rfl rfl (by kernel_rfl) (fun _ _ _ h => h) (.inl ⟨by rfl, by intro w'; go_simp; with_reducible rfl⟩) (by simp only [Act.put, sa_, s0_, s1_, i64_w, i32_w]; rfl) ?_
           refine done_ (done_of HT_.out (by kernel_rfl)) ?_
           try go_wp2
           have n0_ := am (Kd.R_drew HO_z15002.out)
           have n1_ := am (Kd.R_drew HO_z15003.out)
           have n2_ := am (blk_drew BKz14.out)
           have n3_ := am (below_drew1 HB.out)
           clear HO_z15002 HO_z15003 BKz14 HB; have HO_z15002 := n0_; have HO_z15003 := n1_; have BKz14 := n2_; have HB := n3_; clear n0_ n1_ n2_ n3_
           refine start_ (n := 20) (S := fun w' => True) (ds := []) #[false, false, false, false, false, false, false, false, false, false, false, false, false, false, false, false, false, false, false, false] (by kernel_rfl) rfl rfl trivial (fun hHeld => ?_); refine with_tabW columbariumlaw08_IdealClash.tab30 columbariumlaw08_IdealClash.bits30 (fun HT_ HW_ => ?_)
           generalize w95.drew = w96 at HO_z15002 HO_z15003 BKz14 HB hHeld ⊢
           refine pu_ 0 (some 137) HT_ rfl rfl (by kernel_rfl) (fun _ _ _ h => h) (.inl ⟨by rfl, by intro w'; go_simp; with_reducible rfl⟩) (by simp only [Act.put, sa_, s0_, s1_, i64_w, i32_w]; rfl) ?_
           refine pu_ 1 (some 138) HT_ rfl rfl (by kernel_rfl) (fun _ _ _ h => h) (.inl ⟨by rfl, by intro w'; go_simp; with_reducible rfl⟩) (by simp only [Act.put, sa_, s0_, s1_, i64_w, i32_w]; rfl) ?_
           refine pure_ (i := 2) (N := some 139) (v := undef) (a' := ?_) #[true, true, true, false, false, false, false, false, false, false, false, false, false, false, false, false, false, false, false, false] rfl rfl (any_of HT_.out (by kernel_rfl)) (fun _ _ _ h => h) (Or.inr ⟨by rfl, rfl⟩) ?_ ?_
           rotate_left
           ·simp only [Act.put, List.setIfInBounds_toArray, List.set_cons_zero, List.set_cons_succ, i64_w, i32_w]
            rfl
           refine pure_ (i := 3) (N := some 140) (v := undef) (a' := ?_) #[true, true, true, true, false, false, false, false, false, false, false, false, false, false, false, false, false, false, false, false] rfl rfl (any_of HT_.out (by kernel_rfl)) (fun _ _ _ h => h) (Or.inr ⟨by rfl, rfl⟩) ?_ ?_
           rotate_left
           ·simp only [Act.put, List.setIfInBounds_toArray, List.set_cons_zero, List.set_cons_succ, i64_w, i32_w]
            rfl
           refine pure_ (i := 4) (N := some 141) (v := undef) (a' := ?_) #[true, true, true, true, true, false, false, false, false, false, false, false, false, false, false, false, false, false, false, false] rfl rfl (any_of HT_.out (by kernel_rfl)) (fun _ _ _ h => h) (Or.inr ⟨by rfl, rfl⟩) ?_ ?_
           rotate_left
           ·simp only [Act.put, List.setIfInBounds_toArray, List.set_cons_zero, List.set_cons_succ, i64_w, i32_w]
            rfl
           refine pure_ (i := 5) (N := some 142) (v := undef) (a' := ?_) #[true, true, true, true, true, true, false, false, false, false, false, false, false, false, false, false, false, false, false, false] rfl rfl (any_of HT_.out (by kernel_rfl)) (fun _ _ _ h => h) (Or.inr ⟨by rfl, rfl⟩) ?_ ?_
           rotate_left
           ·simp only [Act.put, List.setIfInBounds_toArray, List.set_cons_zero, List.set_cons_succ, i64_w, i32_w]
            rfl
           refine pure_ (i := 6) (N := some 143) (v := undef) (a' := ?_) #[true, true, true, true, true, true, true, false, false, false, false, false, false, false, false, false, false, false, false, false] rfl rfl (any_of HT_.out (by kernel_rfl)) (fun _ _ _ h => h) (Or.inr ⟨by rfl, rfl⟩) ?_ ?_
           rotate_left
           ·simp only [Act.put, List.setIfInBounds_toArray, List.set_cons_zero, List.set_cons_succ, i64_w, i32_w]
            rfl
           refine pure_ (i := 7) (N := some 144) (v := undef) (a' := ?_) #[true, true, true, true, true, true, true, true, false, false, false, false, false, false, false, false, false, false, false, false] rfl rfl (any_of HT_.out (by kernel_rfl)) (fun _ _ _ h => h) (Or.inr ⟨by rfl, rfl⟩) ?_ ?_
           rotate_left
           ·simp only [Act.put, List.setIfInBounds_toArray, List.set_cons_zero, List.set_cons_succ, i64_w, i32_w]
            rfl
           refine pure_ (i := 8) (N := some 145) (v := undef) (a' := ?_) #[true, true, true, true, true, true, true, true, true, false, false, false, false, false, false, false, false, false, false, false] rfl rfl (any_of HT_.out (by kernel_rfl)) (fun _ _ _ h => h) (Or.inr ⟨by rfl, rfl⟩) ?_ ?_
           rotate_left
           ·simp only [Act.put, List.setIfInBounds_toArray, List.set_cons_zero, List.set_cons_succ, i64_w, i32_w]
            rfl
           refine pure_ (i := 9) (N := some 146) (v := undef) (a' := ?_) #[true, true, true, true, true, true, true, true, true, true, false, false, false, false, false, false, false, false, false, false] rfl rfl (any_of HT_.out (by kernel_rfl)) (fun _ _ _ h => h) (Or.inr ⟨by rfl, rfl⟩) ?_ ?_
           rotate_left
           ·simp only [Act.put, List.setIfInBounds_toArray, List.set_cons_zero, List.set_cons_succ, i64_w, i32_w]
            rfl
           refine pure_ (i := 10) (N := some 147) (v := undef) (a' := ?_) #[true, true, true, true, true, true, true, true, true, true, true, false, false, false, false, false, false, false, false, false] rfl rfl (any_of HT_.out (by kernel_rfl)) (fun _ _ _ h => h) (Or.inr ⟨by rfl, rfl⟩) ?_ ?_
           rotate_left
           ·simp only [Act.put, List.setIfInBounds_toArray, List.set_cons_zero, List.set_cons_succ, i64_w, i32_w]
            rfl
           refine pure_ (i := 11) (N := some 148) (v := undef) (a' := ?_) #[true, true, true, true, true, true, true, true, true, true, true, true, false, false, false, false, false, false, false, false] rfl rfl (any_of HT_.out (by kernel_rfl)) (fun _ _ _ h => h) (Or.inr ⟨by rfl, rfl⟩) ?_ ?_
           rotate_left
           ·simp only [Act.put, List.setIfInBounds_toArray, List.set_cons_zero, List.set_cons_succ, i64_w, i32_w]
            rfl
           refine pure_ (i := 12) (N := some 149) (v := undef) (a' := ?_) #[true, true, true, true, true, true, true, true, true, true, true, true, true, false, false, false, false, false, false, false] rfl rfl (any_of HT_.out (by kernel_rfl)) (fun _ _ _ h => h) (Or.inr ⟨by rfl, rfl⟩) ?_ ?_
           rotate_left
           ·simp only [Act.put, List.setIfInBounds_toArray, List.set_cons_zero, List.set_cons_succ, i64_w, i32_w]
            rfl
           refine pure_ (i := 13) (N := some 150) (v := undef) (a' := ?_) #[true, true, true, true, true, true, true, true, true, true, true, true, true, true, false, false, false, false, false, false] rfl rfl (any_of HT_.out (by kernel_rfl)) (fun _ _ _ h => h) (Or.inr ⟨by rfl, rfl⟩) ?_ ?_
           rotate_left
           ·simp only [Act.put, List.setIfInBounds_toArray, List.set_cons_zero, List.set_cons_succ, i64_w, i32_w]
            rfl
           refine pure_ (i := 14) (N := some 151) (v := undef) (a' := ?_) #[true, true, true, true, true, true, true, true, true, true, true, true, true, true, true, false, false, false, false, false] rfl rfl (any_of HT_.out (by kernel_rfl)) (fun _ _ _ h => h) (Or.inr ⟨by rfl, rfl⟩) ?_ ?_
           rotate_left
           ·simp only [Act.put, List.setIfInBounds_toArray, List.set_cons_zero, List.set_cons_succ, i64_w, i32_w]
            rfl
           refine pure_ (i := 15) (N := some 152) (v := undef) (a' := ?_) #[true, true, true, true, true, true, true, true, true, true, true, true, true, true, true, true, false, false, false, false] rfl rfl (any_of HT_.out (by kernel_rfl)) (fun _ _ _ h => h) (Or.inr ⟨by rfl, rfl⟩) ?_ ?_
           rotate_left
           ·simp only [Act.put, List.setIfInBounds_toArray, List.set_cons_zero, List.set_cons_succ, i64_w, i32_w]
            rfl
           refine pure_ (i := 16) (N := some 153) (v := undef) (a' := ?_) #[true, true, true, true, true, true, true, true, true, true, true, true, true, true, true, true, true, false, false, false] rfl rfl (any_of HT_.out (by kernel_rfl)) (fun _ _ _ h => h) (Or.inr ⟨by rfl, rfl⟩) ?_ ?_
           rotate_left
           ·simp only [Act.put, List.setIfInBounds_toArray, List.set_cons_zero, List.set_cons_succ, i64_w, i32_w]
            rfl
           refine pure_ (i := 17) (N := some 154) (v := undef) (a' := ?_) #[true, true, true, true, true, true, true, true, true, true, true, true, true, true, true, true, true, true, false, false] rfl rfl (any_of HT_.out (by kernel_rfl)) (fun _ _ _ h => h) (Or.inr ⟨by rfl, rfl⟩) ?_ ?_
           rotate_left
           ·simp only [Act.put, List.setIfInBounds_toArray, List.set_cons_zero, List.set_cons_succ, i64_w, i32_w]
            rfl
           refine pu_ 18 (some 155) HT_ rfl rfl (by kernel_rfl) (fun _ _ _ h => h) (.inl ⟨by rfl, by intro w'; go_simp; with_reducible rfl⟩) (by simp only [Act.put, sa_, s0_, s1_, i64_w, i32_w]; rfl) ?_
           refine pu_ 19 (some 13) HT_ rfl rfl (by kernel_rfl) (fun _ _ _ h => h) (.inl ⟨by rfl, by intro w'; go_simp; with_reducible rfl⟩) (by simp only [Act.put, sa_, s0_, s1_, i64_w, i32_w]; rfl) ?_
           refine done_ (done_of HT_.out (by kernel_rfl)) ?_
           try go_wp2
           have n0_ := am (Kd.R_drew HO_z15002.out)
           have n1_ := am (Kd.R_drew HO_z15003.out)
           have n2_ := am (blk_drew BKz14.out)
           have n3_ := am (below_drew1 HB.out)
           clear HO_z15002 HO_z15003 BKz14 HB; have HO_z15002 := n0_; have HO_z15003 := n1_; have BKz14 := n2_; have HB := n3_; clear n0_ n1_ n2_ n3_
           have pz54 : 0 ≤ (x16_4 : Int) := of_decide_eq_true (by first | (with_reducible assumption) | assumption)
           have qz54 : x16_4 < (xz15003_1.length : Int) := of_decide_eq_true (by first | (with_reducible assumption) | assumption)
           obtain ⟨adz54, ez54, hxz54_0, hxz54_1, hxz54_2⟩ := at_T74 (Kd.R_reads' HO_z15003.out).2.2 x16_4 pz54 qz54
           obtain rfl : adz52 = adz54 := (by injection ez54)
           replace pz54 := eq_true pz54
           replace qz54 := eq_true qz54
           have pz55 : 0 ≤ (x17_5 : Int) := of_decide_eq_true (by first | (with_reducible assumption) | assumption)
           have qz55 : x17_5 < (xz15003_1.length : Int) := of_decide_eq_true (by first | (with_reducible assumption) | assumption)
           obtain ⟨adz55, ez55, hxz55_0, hxz55_1, hxz55_2⟩ := at_T74 (Kd.R_reads' HO_z15003.out).2.2 x17_5 pz55 qz55
           obtain rfl : adz52 = adz55 := (by injection ez55)
           replace pz55 := eq_true pz55
           replace qz55 := eq_true qz55
           refine start_ (n := 16) (S := fun w' => w'.cell? ⟨gbz14, 0, none⟩ = some (.string xz15000_1) ∧ w'.cell? ⟨gbz14, 1, none⟩ = some (.int .i64 xz15001_1) ∧ w'.cell? ⟨gbz14, 2, none⟩ = some (.slice Ao83 xz15002_1.length co83) ∧ w'.cell? ⟨gbz14, 3, none⟩ = some (.slice (some adz52) xz15003_1.length co86) ∧ w'.cell? ⟨gbz14, 4, none⟩ = some (.bool xz15004_1) ∧ w'.cell? (adz52.add ((x16_4).toNat * 3)) = some (.string ((rd_T74 xz15003_1 x16_4).f0)) ∧ w'.cell? ⟨(adz52.add ((x16_4).toNat * 3)).block, (adz52.add ((x16_4).toNat * 3)).off + 1, none⟩ = some (.string ((rd_T74 xz15003_1 x16_4).f1)) ∧ w'.cell? ⟨(adz52.add ((x16_4).toNat * 3)).block, (adz52.add ((x16_4).toNat * 3)).off + 2, none⟩ = some (.string ((rd_T74 xz15003_1 x16_4).f2)) ∧ w'.cell? (adz52.add ((x17_5).toNat * 3)) = some (.string ((rd_T74 xz15003_1 x17_5).f0)) ∧ w'.cell? ⟨(adz52.add ((x17_5).toNat * 3)).block, (adz52.add ((x17_5).toNat * 3)).off + 1, none⟩ = some (.string ((rd_T74 xz15003_1 x17_5).f1)) ∧ w'.cell? ⟨(adz52.add ((x17_5).toNat * 3)).block, (adz52.add ((x17_5).toNat * 3)).off + 2, none⟩ = some (.string ((rd_T74 xz15003_1 x17_5).f2))) (ds := []) #[false, false, false, false, false, false, false, false, false, false, false, false, false, false, false, false] (by kernel_rfl) rfl rfl ⟨(blk_cell BKz14.out 0).trans rfl, (blk_cell BKz14.out 1).trans rfl, (blk_cell BKz14.out 2).trans rfl, (blk_cell BKz14.out 3).trans rfl, (blk_cell BKz14.out 4).trans rfl, hxz54_0, hxz54_1, hxz54_2, hxz55_0, hxz55_1, hxz55_2⟩ (fun hHeld => ?_); refine with_tabW columbariumlaw08_IdealClash.tab31 columbariumlaw08_IdealClash.bits31 (fun HT_ HW_ => ?_)
           generalize w96.drew = w97 at HO_z15002 HO_z15003 BKz14 HB hxz54_0 hxz54_1 hxz54_2 hxz55_0 hxz55_1 hxz55_2 hHeld ⊢
           refine pu_ 0 (some 156) HT_ rfl rfl (by kernel_rfl) (fun _ _ _ h => h) (.inl ⟨by rfl, by intro w'; go_simp; with_reducible rfl⟩) (by simp only [Act.put, sa_, s0_, s1_, i64_w, i32_w]; rfl) ?_
           refine pu_ 1 (some 157) HT_ rfl rfl (by kernel_rfl) (fun _ _ _ h => h) (.inl ⟨by rfl, by intro w'; go_simp; with_reducible rfl⟩) (by simp only [Act.put, sa_, s0_, s1_, i64_w, i32_w]; rfl) ?_
           refine pu_ 2 (some 158) HT_ rfl rfl (by kernel_rfl) (fun _ _ _ h => h) (.inl ⟨by rfl, by intro w'; go_simp; with_reducible rfl⟩) (by simp only [Act.put, sa_, s0_, s1_, i64_w, i32_w]; rfl) ?_
           refine pu_ 4 (some 160) HT_ rfl rfl (by kernel_rfl) (fun _ _ _ h => h) (.inl ⟨by rfl, by intro w'; go_simp; with_reducible rfl⟩) (by simp only [Act.put, sa_, s0_, s1_, i64_w, i32_w]; rfl) ?_
           refine pu_ 8 (some 164) HT_ rfl rfl (by kernel_rfl) (fun _ _ _ h => h) (.inl ⟨by rfl, by intro w'; go_simp; with_reducible rfl⟩) (by simp only [Act.put, sa_, s0_, s1_, i64_w, i32_w]; rfl) ?_
           refine pu_ 10 (some 166) HT_ rfl rfl (by kernel_rfl) (fun _ _ _ h => h) (.inl ⟨by rfl, by intro w'; go_simp; with_reducible rfl⟩) (by simp only [Act.put, sa_, s0_, s1_, i64_w, i32_w]; rfl) ?_
           refine tk_ 3 (some 159) HT_ HW_ rfl rfl (by kernel_rfl) (fun _ _ _ h => h) (.inl ⟨by rfl, by rintro w' ⟨s0, s1, s2, s3, s4, s5, s6, s7, s8, s9, s10⟩; go_simp; with_reducible rfl⟩) hHeld (by simp only [Act.put, sa_, s0_, s1_, i64_w, i32_w]; rfl) ?_
           refine pu_ 5 (some 161) HT_ rfl rfl (by kernel_rfl) (fun _ _ _ h => h) (.inl ⟨by rfl, by intro w'; go_simp; with_reducible rfl⟩) (by simp only [Act.put, sa_, s0_, s1_, i64_w, i32_w]; rfl) ?_
           refine pu_ 6 (some 162) HT_ rfl rfl (by kernel_rfl) (fun _ _ _ h => h) (.inl ⟨by rfl, by intro w'; go_simp; with_reducible rfl⟩) (by simp only [Act.put, sa_, s0_, s1_, i64_w, i32_w]; rfl) ?_
           refine tk_ 7 (some 163) HT_ HW_ rfl rfl (by kernel_rfl) (fun _ _ _ h => h) (.inl ⟨by rfl, by rintro w' ⟨s0, s1, s2, s3, s4, s5, s6, s7, s8, s9, s10⟩; go_simp; with_reducible rfl⟩) hHeld (by simp only [Act.put, sa_, s0_, s1_, i64_w, i32_w]; rfl) ?_
           refine tk_ 9 (some 165) HT_ HW_ rfl rfl (by kernel_rfl) (fun _ _ _ h => h) (.inl ⟨by rfl, by rintro w' ⟨s0, s1, s2, s3, s4, s5, s6, s7, s8, s9, s10⟩; go_simp; with_reducible rfl⟩) hHeld (by simp only [Act.put, sa_, s0_, s1_, i64_w, i32_w]; rfl) ?_
           refine pu_ 11 (some 167) HT_ rfl rfl (by kernel_rfl) (fun _ _ _ h => h) (.inl ⟨by rfl, by intro w'; go_simp; with_reducible rfl⟩) (by simp only [Act.put, sa_, s0_, s1_, i64_w, i32_w]; rfl) ?_
           refine pu_ 12 (some 168) HT_ rfl rfl (by kernel_rfl) (fun _ _ _ h => h) (.inl ⟨by rfl, by intro w'; go_simp; with_reducible rfl⟩) (by simp only [Act.put, sa_, s0_, s1_, i64_w, i32_w]; rfl) ?_
           refine tk_ 13 (some 169) HT_ HW_ rfl rfl (by kernel_rfl) (fun _ _ _ h => h) (.inl ⟨by rfl, by rintro w' ⟨s0, s1, s2, s3, s4, s5, s6, s7, s8, s9, s10⟩; go_simp; with_reducible rfl⟩) hHeld (by simp only [Act.put, sa_, s0_, s1_, i64_w, i32_w]; rfl) ?_
           refine pu_ 14 (some 170) HT_ rfl rfl (by kernel_rfl) (fun _ _ _ h => h) (.inl ⟨by rfl, by intro w'; go_simp; with_reducible rfl⟩) (by simp only [Act.put, sa_, s0_, s1_, i64_w, i32_w]; rfl) ?_
           refine pu_ 15 (some 171) HT_ rfl rfl (by kernel_rfl) (fun _ _ _ h => h) (.inl ⟨by rfl, by intro w'; go_simp; with_reducible rfl⟩) (by simp only [Act.put, sa_, s0_, s1_, i64_w, i32_w]; rfl) ?_
           refine done_ (done_of HT_.out (by kernel_rfl)) ?_
           try go_wp2
           go_roundg k5
           case measure => have := HK1.out; have := HJ13.out; have := HK3.out; have := HK4.out; have := HK5.out; omega
           case rel => exact ⟨(true), (wrap64 (x17_5 + 1)), (by first | rfl | (simp; done) | (simp [*]; done)), (by first | rfl | (simp; done) | (simp [*]; done)), H', ⟨by have := HK1.out; have := HJ13.out; have := HK3.out; have := HK4.out; have := HK5.out; omega⟩, ⟨by (with_reducible repeat (first | apply Kd.R_alloc | apply Kd.R_drewN | apply Kd.R_drew)); exact HO_z15002.out⟩, ⟨by (with_reducible repeat (first | apply Kd.R_alloc | apply Kd.R_drewN | apply Kd.R_drew)); exact HO_z15003.out⟩, ⟨by (with_reducible repeat (first | refine blk_drewN ?_ _ | refine blk_drew ?_ | refine blk_alloc ?_ _)); exact BKz14.out⟩, ⟨by repeat (first | (with_reducible first | exact HB.out | apply below_alloc | apply pw_below_drewN | apply below_drew1 | refine below_set ?_ GEz14.out) | exact HB.out)⟩⟩
end Go.Proofs.Ytmkncddbecmlpaa.Pr
end
