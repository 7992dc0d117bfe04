-- Written by wip/tools/xprint.py, a patched run of the kit's print: not typed by hand.
import Derived.Test.YtcfinlmocgbnbaaXSq
import Derived.Test.YtcfinlmocgbnbaaPr0
import Derived.Test.YtcfinlmocgbnbaaPrFcolumbariumlaw14Moves
import Derived.Test.YtcfinlmocgbnbaaPrFcolumbariumlaw14awake
import Derived.Test.YtcfinlmocgbnbaaPrFcolumbariumlaw14pick
import Derived.Test.YtcfinlmocgbnbaaXDo
import Derived.Test.YtcfinlmocgbnbaaXNew
import Derived.Test.YtcfinlmocgbnbaaXRead
import Derived.Test.YtcfinlmocgbnbaaXRight
namespace Go.Proofs.Ytcfinlmocgbnbaa.Pr
open Go.Proofs.Ytcfinlmocgbnbaa.Sq Go.RowKit Go.Proofs.YtcfinlmocgbnbaaW.PrintWords Go.Proofs.YtcfinlmocgbnbaaW.PrintLast Go.Proofs.YtcfinlmocgbnbaaW.PrintMore
attribute [local go_sem] max2_int min2_int max_two min_two max_three min_three max_four min_four   -- for this text's walks alone
set_option linter.unusedVariables false
set_option linter.unusedSimpArgs false

/-! ### columbariumlaw14_DiskLast: function 4 -/
mutual
def columbariumlaw14_DiskLast.l0 : Nat → Bool → Int → Int → List (S24) → List ByteArray → Int → List ByteArray → List (S24) → Option (Bool)
 | 0, _, _, _, _, _, _, _, _ => none
 | k + 1, x5, x6, x8, x9, x10, x11, xz11000, xz11001 => if x11 < x6 then (if 64 ≤ 281474976710656 then (if 0 ≤ x11 then (if x11 < (x10.length : Int) then (columbariumlaw14_DiskLast.l0 k x5 x6 x8 x9 (x10.set (x11 : Int).toNat (strOfNums (List.replicate 64 0))) (wrap64 (x11 + 1)) xz11000 xz11001) else (none)) else (none)) else (none)) else (columbariumlaw14_DiskLast.l1 k x5 x6 x8 x9 x10 0 xz11000 xz11001)
def columbariumlaw14_DiskLast.l1 : Nat → Bool → Int → Int → List (S24) → List ByteArray → Int → List ByteArray → List (S24) → Option (Bool)
 | 0, _, _, _, _, _, _, _, _ => none
 | k + 1, x5, x6, x8, x9, x10, x12, xz11000, xz11001 => if x12 < (x9.length : Int) then (if 0 ≤ x12 then ((disk_Do.f xz11000 xz11001 (([(⟨(rd_T24 x9 x12).f0, (rd_T24 x9 x12).f1, (rd_T24 x9 x12).f2⟩ : S24)] : List (S24)))).bind fun btz25 => (if btz25.2.2 = 0 then ((disk_Right.f btz25.1 btz25.2.1).bind fun tz33 => (columbariumlaw14_DiskLast.j2 k x5 x6 x8 x9 x10 x12 (!tz33) btz25.1 btz25.2.1)) else (columbariumlaw14_DiskLast.j2 k x5 x6 x8 x9 x10 x12 true btz25.1 btz25.2.1))) else (none)) else ((disk_Do.f xz11000 xz11001 (([(⟨true, 0, (⟨#[]⟩ : ByteArray)⟩ : S24)] : List (S24)))).bind fun btz41 => (if x8 = 0 then (if btz41.2.2 = 0 then (if (btz41.2.1.length : Int) = 0 then (columbariumlaw14_DiskLast.j3 k x5 x6 x10 ((btz41.1.length : Int) != x6) xz11000 xz11001 btz41.1 btz41.2.1) else (columbariumlaw14_DiskLast.j3 k x5 x6 x10 true xz11000 xz11001 btz41.1 btz41.2.1)) else (columbariumlaw14_DiskLast.j3 k x5 x6 x10 true xz11000 xz11001 btz41.1 btz41.2.1)) else (columbariumlaw14_DiskLast.j3 k x5 x6 x10 true xz11000 xz11001 btz41.1 btz41.2.1)))
def columbariumlaw14_DiskLast.j2 : Nat → Bool → Int → Int → List (S24) → List ByteArray → Int → Bool → List ByteArray → List (S24) → Option (Bool)
 | 0, _, _, _, _, _, _, _, _, _ => none
 | k + 1, x5, x6, x8, x9, x10, x12, x68, xz33000, xz33001 => if x68 = true then (none) else (if 0 ≤ x12 then (if x12 < (x9.length : Int) then (if ((rd_T24 x9 x12).f0 = true) then (columbariumlaw14_DiskLast.l1 k x5 x6 x8 x9 x10 (wrap64 (x12 + 1)) xz33000 xz33001) else (if 0 ≤ ((rd_T24 x9 x12).f1) then (if ((rd_T24 x9 x12).f1) < (x10.length : Int) then (columbariumlaw14_DiskLast.l1 k x5 x6 x8 x9 (x10.set (((rd_T24 x9 x12).f1) : Int).toNat ((rd_T24 x9 x12).f2)) (wrap64 (x12 + 1)) xz33000 xz33001) else (none)) else (none))) else (none)) else (none))
def columbariumlaw14_DiskLast.j3 : Nat → Bool → Int → List ByteArray → Bool → List ByteArray → List (S24) → List ByteArray → List (S24) → Option (Bool)
 | 0, _, _, _, _, _, _, _, _ => none
 | k + 1, x5, x6, x10, x113, xz11000, xz11001, xz49000, xz49001 => if x113 = true then (none) else (columbariumlaw14_DiskLast.l2 k x5 x6 x10 0 xz11000 xz11001 xz49000 xz49001)
def columbariumlaw14_DiskLast.l2 : Nat → Bool → Int → List ByteArray → Int → List ByteArray → List (S24) → List ByteArray → List (S24) → Option (Bool)
 | 0, _, _, _, _, _, _, _, _ => none
 | k + 1, x5, x6, x10, x17, xz11000, xz11001, xz49000, xz49001 => if x17 < x6 then ((disk_Read.f xz11000 xz11001 x17).bind fun btz49 => ((disk_Read.f xz49000 xz49001 x17).bind fun btz51 => (if btz49.2 = 0 then (if btz51.2 = 0 then (if 0 ≤ x17 then (if x17 < (x10.length : Int) then (if btz49.1.toList = (rdOf ByteArray.empty x10 x17).toList then (if btz51.1.toList = (rdOf ByteArray.empty x10 x17).toList then (if x17 < (xz49000.length : Int) then (if (rdOf ByteArray.empty xz49000 x17).toList = (rdOf ByteArray.empty x10 x17).toList then (columbariumlaw14_DiskLast.l2 k x5 x6 x10 (wrap64 (x17 + 1)) xz11000 xz11001 xz49000 xz49001) else (none)) else (none)) else (none)) else (none)) else (none)) else (none)) else (none)) else (none)))) else (some x5)
end
def columbariumlaw14_DiskLast.f (k : Nat) (a0 : Int) (l1 : List (S67)) : Option (Bool) := (columbariumlaw14_awake.f k).bind fun tz1 => ((columbariumlaw14_pick.f a0 6).bind fun tz2 => ((disk_New.f (wrap64 (1 + tz2))).bind fun btz3 => ((columbariumlaw14_Moves.f k l1 (wrap64 (1 + tz2))).bind fun tz11 => (if 0 ≤ (wrap64 (1 + tz2)) then (if (wrap64 (1 + tz2) : Int).toNat ≤ 17592186044416 then (columbariumlaw14_DiskLast.l0 k tz1 (wrap64 (1 + tz2)) btz3.2.2 tz11 (List.replicate (wrap64 (1 + tz2) : Int).toNat (⟨#[]⟩ : ByteArray)) 0 btz3.1 btz3.2.1) else (none)) else (none)))))
theorem columbariumlaw14_DiskLast.mono_l : ∀ k, (∀ y0 y1 y2 y3 y4 y5 y6 y7, LeO (columbariumlaw14_DiskLast.l0 k y0 y1 y2 y3 y4 y5 y6 y7) (columbariumlaw14_DiskLast.l0 (k + 1) y0 y1 y2 y3 y4 y5 y6 y7)) ∧ (∀ y0 y1 y2 y3 y4 y5 y6 y7, LeO (columbariumlaw14_DiskLast.l1 k y0 y1 y2 y3 y4 y5 y6 y7) (columbariumlaw14_DiskLast.l1 (k + 1) y0 y1 y2 y3 y4 y5 y6 y7)) ∧ (∀ y0 y1 y2 y3 y4 y5 y6 y7 y8, LeO (columbariumlaw14_DiskLast.j2 k y0 y1 y2 y3 y4 y5 y6 y7 y8) (columbariumlaw14_DiskLast.j2 (k + 1) y0 y1 y2 y3 y4 y5 y6 y7 y8)) ∧ (∀ y0 y1 y2 y3 y4 y5 y6 y7, LeO (columbariumlaw14_DiskLast.j3 k y0 y1 y2 y3 y4 y5 y6 y7) (columbariumlaw14_DiskLast.j3 (k + 1) y0 y1 y2 y3 y4 y5 y6 y7)) ∧ (∀ y0 y1 y2 y3 y4 y5 y6 y7, LeO (columbariumlaw14_DiskLast.l2 k y0 y1 y2 y3 y4 y5 y6 y7) (columbariumlaw14_DiskLast.l2 (k + 1) y0 y1 y2 y3 y4 y5 y6 y7))
 | 0 => ⟨fun _ _ _ _ _ _ _ _ r h => by simp [columbariumlaw14_DiskLast.l0] at h, fun _ _ _ _ _ _ _ _ r h => by simp [columbariumlaw14_DiskLast.l1] at h, fun _ _ _ _ _ _ _ _ _ r h => by simp [columbariumlaw14_DiskLast.j2] at h, fun _ _ _ _ _ _ _ _ r h => by simp [columbariumlaw14_DiskLast.j3] at h, fun _ _ _ _ _ _ _ _ r h => by simp [columbariumlaw14_DiskLast.l2] at h⟩
 | k + 1 => by
  obtain ⟨ih0, ih1, ih2, ih3, ih4⟩ := columbariumlaw14_DiskLast.mono_l k
  refine ⟨?_, ?_, ?_, ?_, ?_⟩
  ·intro y0 y1 y2 y3 y4 y5 y6 y7
   unfold columbariumlaw14_DiskLast.l0
   repeat' first
   | (with_reducible exact ih0 _ _ _ _ _ _ _ _)
   | (with_reducible exact ih1 _ _ _ _ _ _ _ _)
   | (with_reducible exact ih2 _ _ _ _ _ _ _ _ _)
   | (with_reducible exact ih3 _ _ _ _ _ _ _ _)
   | (with_reducible exact ih4 _ _ _ _ _ _ _ _)
   | (with_reducible exact columbariumlaw14_Moves.mono _ _ _)
   | (with_reducible exact columbariumlaw14_awake.mono _)
   | (with_reducible exact LeO.refl _)
   | (with_reducible exact LeO.none _)
   | (with_reducible refine LeO.ite ?_ ?_)
   | (with_reducible refine LeO.bind ?_ (fun _ => ?_))
   | exact ih0 _ _ _ _ _ _ _ _
   | exact ih1 _ _ _ _ _ _ _ _
   | exact ih2 _ _ _ _ _ _ _ _ _
   | exact ih3 _ _ _ _ _ _ _ _
   | exact ih4 _ _ _ _ _ _ _ _
   | exact columbariumlaw14_Moves.mono _ _ _
   | exact columbariumlaw14_awake.mono _
   | exact LeO.none _
   | refine LeO.ite ?_ ?_
   | refine LeO.bind ?_ (fun _ => ?_)
  ·intro y0 y1 y2 y3 y4 y5 y6 y7
   unfold columbariumlaw14_DiskLast.l1
   repeat' first
   | (with_reducible exact ih0 _ _ _ _ _ _ _ _)
   | (with_reducible exact ih1 _ _ _ _ _ _ _ _)
   | (with_reducible exact ih2 _ _ _ _ _ _ _ _ _)
   | (with_reducible exact ih3 _ _ _ _ _ _ _ _)
   | (with_reducible exact ih4 _ _ _ _ _ _ _ _)
   | (with_reducible exact columbariumlaw14_Moves.mono _ _ _)
   | (with_reducible exact columbariumlaw14_awake.mono _)
   | (with_reducible exact LeO.refl _)
   | (with_reducible exact LeO.none _)
   | (with_reducible refine LeO.ite ?_ ?_)
   | (with_reducible refine LeO.bind ?_ (fun _ => ?_))
   | exact ih0 _ _ _ _ _ _ _ _
   | exact ih1 _ _ _ _ _ _ _ _
   | exact ih2 _ _ _ _ _ _ _ _ _
   | exact ih3 _ _ _ _ _ _ _ _
   | exact ih4 _ _ _ _ _ _ _ _
   | exact columbariumlaw14_Moves.mono _ _ _
   | exact columbariumlaw14_awake.mono _
   | exact LeO.none _
   | refine LeO.ite ?_ ?_
   | refine LeO.bind ?_ (fun _ => ?_)
  ·intro y0 y1 y2 y3 y4 y5 y6 y7 y8
   unfold columbariumlaw14_DiskLast.j2
   repeat' first
   | (with_reducible exact ih0 _ _ _ _ _ _ _ _)
   | (with_reducible exact ih1 _ _ _ _ _ _ _ _)
   | (with_reducible exact ih2 _ _ _ _ _ _ _ _ _)
   | (with_reducible exact ih3 _ _ _ _ _ _ _ _)
   | (with_reducible exact ih4 _ _ _ _ _ _ _ _)
   | (with_reducible exact columbariumlaw14_Moves.mono _ _ _)
   | (with_reducible exact columbariumlaw14_awake.mono _)
   | (with_reducible exact LeO.refl _)
   | (with_reducible exact LeO.none _)
   | (with_reducible refine LeO.ite ?_ ?_)
   | (with_reducible refine LeO.bind ?_ (fun _ => ?_))
   | exact ih0 _ _ _ _ _ _ _ _
   | exact ih1 _ _ _ _ _ _ _ _
   | exact ih2 _ _ _ _ _ _ _ _ _
   | exact ih3 _ _ _ _ _ _ _ _
   | exact ih4 _ _ _ _ _ _ _ _
   | exact columbariumlaw14_Moves.mono _ _ _
   | exact columbariumlaw14_awake.mono _
   | exact LeO.none _
   | refine LeO.ite ?_ ?_
   | refine LeO.bind ?_ (fun _ => ?_)
  ·intro y0 y1 y2 y3 y4 y5 y6 y7
   unfold columbariumlaw14_DiskLast.j3
   repeat' first
   | (with_reducible exact ih0 _ _ _ _ _ _ _ _)
   | (with_reducible exact ih1 _ _ _ _ _ _ _ _)
   | (with_reducible exact ih2 _ _ _ _ _ _ _ _ _)
   | (with_reducible exact ih3 _ _ _ _ _ _ _ _)
   | (with_reducible exact ih4 _ _ _ _ _ _ _ _)
   | (with_reducible exact columbariumlaw14_Moves.mono _ _ _)
   | (with_reducible exact columbariumlaw14_awake.mono _)
   | (with_reducible exact LeO.refl _)
   | (with_reducible exact LeO.none _)
   | (with_reducible refine LeO.ite ?_ ?_)
   | (with_reducible refine LeO.bind ?_ (fun _ => ?_))
   | exact ih0 _ _ _ _ _ _ _ _
   | exact ih1 _ _ _ _ _ _ _ _
   | exact ih2 _ _ _ _ _ _ _ _ _
   | exact ih3 _ _ _ _ _ _ _ _
   | exact ih4 _ _ _ _ _ _ _ _
   | exact columbariumlaw14_Moves.mono _ _ _
   | exact columbariumlaw14_awake.mono _
   | exact LeO.none _
   | refine LeO.ite ?_ ?_
   | refine LeO.bind ?_ (fun _ => ?_)
  ·intro y0 y1 y2 y3 y4 y5 y6 y7
   unfold columbariumlaw14_DiskLast.l2
   repeat' first
   | (with_reducible exact ih0 _ _ _ _ _ _ _ _)
   | (with_reducible exact ih1 _ _ _ _ _ _ _ _)
   | (with_reducible exact ih2 _ _ _ _ _ _ _ _ _)
   | (with_reducible exact ih3 _ _ _ _ _ _ _ _)
   | (with_reducible exact ih4 _ _ _ _ _ _ _ _)
   | (with_reducible exact columbariumlaw14_Moves.mono _ _ _)
   | (with_reducible exact columbariumlaw14_awake.mono _)
   | (with_reducible exact LeO.refl _)
   | (with_reducible exact LeO.none _)
   | (with_reducible refine LeO.ite ?_ ?_)
   | (with_reducible refine LeO.bind ?_ (fun _ => ?_))
   | exact ih0 _ _ _ _ _ _ _ _
   | exact ih1 _ _ _ _ _ _ _ _
   | exact ih2 _ _ _ _ _ _ _ _ _
   | exact ih3 _ _ _ _ _ _ _ _
   | exact ih4 _ _ _ _ _ _ _ _
   | exact columbariumlaw14_Moves.mono _ _ _
   | exact columbariumlaw14_awake.mono _
   | exact LeO.none _
   | refine LeO.ite ?_ ?_
   | refine LeO.bind ?_ (fun _ => ?_)
theorem columbariumlaw14_DiskLast.mono : ∀ a0 a1 k, LeO (columbariumlaw14_DiskLast.f k a0 a1) (columbariumlaw14_DiskLast.f (k + 1) a0 a1) := by
 intro a0 a1 k
 obtain ⟨ih0, ih1, ih2, ih3, ih4⟩ := columbariumlaw14_DiskLast.mono_l k
 unfold columbariumlaw14_DiskLast.f
 repeat' first
  | (with_reducible exact ih0 _ _ _ _ _ _ _ _)
  | (with_reducible exact ih1 _ _ _ _ _ _ _ _)
  | (with_reducible exact ih2 _ _ _ _ _ _ _ _ _)
  | (with_reducible exact ih3 _ _ _ _ _ _ _ _)
  | (with_reducible exact ih4 _ _ _ _ _ _ _ _)
  | (with_reducible exact columbariumlaw14_Moves.mono _ _ _)
  | (with_reducible exact columbariumlaw14_awake.mono _)
  | (with_reducible exact LeO.refl _)
  | (with_reducible exact LeO.none _)
  | (with_reducible refine LeO.ite ?_ ?_)
  | (with_reducible refine LeO.bind ?_ (fun _ => ?_))
  | exact ih0 _ _ _ _ _ _ _ _
  | exact ih1 _ _ _ _ _ _ _ _
  | exact ih2 _ _ _ _ _ _ _ _ _
  | exact ih3 _ _ _ _ _ _ _ _
  | exact ih4 _ _ _ _ _ _ _ _
  | exact columbariumlaw14_Moves.mono _ _ _
  | exact columbariumlaw14_awake.mono _
  | exact LeO.none _
  | refine LeO.ite ?_ ?_
  | refine LeO.bind ?_ (fun _ => ?_)
def columbariumlaw14_DiskLast.T13 : Bool × List (List Nat × List Nat) := (true, [([], []), ([], []), ([], []), ([1, 2], [1, 2]), ([3], [3]), ([4], [4]), ([0, 5], [0, 5]), ([6], [6]), ([7], [7]), ([7], [7]), ([], []), ([10, 8, 6, 0, 1, 2, 3, 4, 5, 6, 7, 8, 10], [8, 10]), ([9, 11, 0, 1, 2, 3, 4, 5, 6, 7, 8, 9, 10, 11], [9])])
def columbariumlaw14_DiskLast.B13 : List Nat := [0, 0, 0, 6, 14, 30, 63, 127, 255, 255, 0, 1535, 4095]
theorem columbariumlaw14_DiskLast.tab13 : rtab .any (opsOf Try.f4 13) = columbariumlaw14_DiskLast.T13 := by kernel_rfl
theorem columbariumlaw14_DiskLast.bits13 : waitsOk columbariumlaw14_DiskLast.T13.2 columbariumlaw14_DiskLast.B13 = true := by kernel_rfl
def columbariumlaw14_DiskLast.T18 : Bool × List (List Nat × List Nat) := (true, [([], []), ([], []), ([], []), ([1, 2], [1, 2]), ([3], [3]), ([4], [4]), ([], []), ([], []), ([6, 7], [6, 7]), ([8], [8]), ([9], [9]), ([0, 5, 0, 1, 2, 3, 4, 5, 6, 7, 8, 9, 10], [0, 5]), ([11, 10, 0, 1, 2, 3, 4, 5, 6, 7, 8, 9, 10], [10, 11])])
def columbariumlaw14_DiskLast.B18 : List Nat := [0, 0, 0, 6, 14, 30, 0, 0, 192, 448, 960, 2047, 4095]
theorem columbariumlaw14_DiskLast.tab18 : rtab .any (opsOf Try.f4 18) = columbariumlaw14_DiskLast.T18 := by kernel_rfl
theorem columbariumlaw14_DiskLast.bits18 : waitsOk columbariumlaw14_DiskLast.T18.2 columbariumlaw14_DiskLast.B18 = true := by kernel_rfl
def columbariumlaw14_DiskLast.T27 : Bool × List (List Nat × List Nat) := (true, [([], []), ([0], [0]), ([1], [1]), ([2], [2]), ([3, 2], [2, 3]), ([2, 4], [2, 4]), ([5, 2], [5]), ([6], [6]), ([6], [6]), ([6], [6]), ([8, 9, 6], [6, 8, 9]), ([10, 6], [6, 10]), ([7, 11, 6], [6, 7, 11]), ([6, 12], [6, 12]), ([13, 6], [13]), ([14], [14]), ([14], [14]), ([14], [14]), ([16, 17, 14], [14, 16, 17]), ([18, 14], [14, 18]), ([15, 19, 14], [14, 15, 19]), ([14, 20], [14, 20]), ([21, 14], [21]), ([22], [22]), ([23, 22], [22, 23]), ([22], [22]), ([24, 25, 22], [22, 24, 25]), ([26, 22], [22, 26]), ([22], [22]), ([22], [22]), ([28, 29, 22], [22, 28, 29]), ([30, 22], [22, 30]), ([27, 31, 22], [22, 27, 31]), ([22, 32], [22, 32])])
def columbariumlaw14_DiskLast.B27 : List Nat := [0, 1, 3, 7, 15, 31, 63, 127, 127, 127, 895, 1919, 4095, 8191, 16383, 32767, 32767, 32767, 229375, 491519, 1048575, 2097151, 4194303, 8388607, 16777215, 8388607, 67108863, 134217727, 8388607, 8388607, 813694975, 1887436799, 4294967295, 8589934591]
theorem columbariumlaw14_DiskLast.tab27 : rtab .any (opsOf Try.f4 27) = columbariumlaw14_DiskLast.T27 := by kernel_rfl
theorem columbariumlaw14_DiskLast.bits27 : waitsOk columbariumlaw14_DiskLast.T27.2 columbariumlaw14_DiskLast.B27 = true := by kernel_rfl
set_option maxHeartbeats 8000000 in
set_option maxRecDepth 100000 in
theorem columbariumlaw14_DiskLast.calls (k : Nat) (a0 : Int) (A1 : Option Addr) (c1 : Nat) (l1 : List (S67)) (r : Bool) (w : World) (hr1 : Kd.C k67 w A1 l1.length l1) (hc1 : l1.length ≤ c1) (h : columbariumlaw14_DiskLast.f k a0 l1 = some r) :
  Calls Try.prog 4 #[.int .i64 a0, .slice A1 l1.length c1] w fun e w' => e = .returned (.bool r) ∧ Below w.heap.size w w' := by
 have hu30 := Try.underlying30
 have hu24 := Try.underlying24
 have HR1 := am hr1
 have HC1 := am hc1
 clear hr1 hc1
 have HB := am (Below.refl w.heap.size w)
 have H : ((columbariumlaw14_awake.f k).bind fun tz1 => ((columbariumlaw14_pick.f a0 6).bind fun tz2 => ((disk_New.f (wrap64 (1 + tz2))).bind fun btz3 => ((columbariumlaw14_Moves.f k l1 (wrap64 (1 + tz2))).bind fun tz11 => (if 0 ≤ (wrap64 (1 + tz2)) then (if (wrap64 (1 + tz2) : Int).toNat ≤ 17592186044416 then (columbariumlaw14_DiskLast.l0 k tz1 (wrap64 (1 + tz2)) btz3.2.2 tz11 (List.replicate (wrap64 (1 + tz2) : Int).toNat (⟨#[]⟩ : ByteArray)) 0 btz3.1 btz3.2.1) else (none)) else (none)))))) = some r := h
 clear h
 replace H := ob_ H
 obtain ⟨tz1, A30, H⟩ := H
 replace H : ((columbariumlaw14_pick.f a0 6).bind fun tz2 => ((disk_New.f (wrap64 (1 + tz2))).bind fun btz3 => ((columbariumlaw14_Moves.f k l1 (wrap64 (1 + tz2))).bind fun tz11 => (if 0 ≤ (wrap64 (1 + tz2)) then (if (wrap64 (1 + tz2) : Int).toNat ≤ 17592186044416 then (columbariumlaw14_DiskLast.l0 k tz1 (wrap64 (1 + tz2)) btz3.2.2 tz11 (List.replicate (wrap64 (1 + tz2) : Int).toNat (⟨#[]⟩ : ByteArray)) 0 btz3.1 btz3.2.1) else (none)) else (none))))) = some r := H
 have A3 := Aside0.mk A30
 clear A30
 replace H := ob_ H
 obtain ⟨tz2, A40, H⟩ := H
 replace H : ((disk_New.f (wrap64 (1 + tz2))).bind fun btz3 => ((columbariumlaw14_Moves.f k l1 (wrap64 (1 + tz2))).bind fun tz11 => (if 0 ≤ (wrap64 (1 + tz2)) then (if (wrap64 (1 + tz2) : Int).toNat ≤ 17592186044416 then (columbariumlaw14_DiskLast.l0 k tz1 (wrap64 (1 + tz2)) btz3.2.2 tz11 (List.replicate (wrap64 (1 + tz2) : Int).toNat (⟨#[]⟩ : ByteArray)) 0 btz3.1 btz3.2.1) else (none)) else (none)))) = some r := H
 have A4 := Aside0.mk A40
 clear A40
 replace H := ob_ H
 obtain ⟨⟨tz3, tz6, tz9⟩, A50, H⟩ := H
 replace H : ((columbariumlaw14_Moves.f k l1 (wrap64 (1 + tz2))).bind fun tz11 => (if 0 ≤ (wrap64 (1 + tz2)) then (if (wrap64 (1 + tz2) : Int).toNat ≤ 17592186044416 then (columbariumlaw14_DiskLast.l0 k tz1 (wrap64 (1 + tz2)) tz9 tz11 (List.replicate (wrap64 (1 + tz2) : Int).toNat (⟨#[]⟩ : ByteArray)) 0 tz3 tz6) else (none)) else (none))) = some r := H
 have A5 := Aside0.mk A50
 clear A50
 replace H := ob_ H
 obtain ⟨tz11, A60, H⟩ := H
 replace H : (if 0 ≤ (wrap64 (1 + tz2)) then (if (wrap64 (1 + tz2) : Int).toNat ≤ 17592186044416 then (columbariumlaw14_DiskLast.l0 k tz1 (wrap64 (1 + tz2)) tz9 tz11 (List.replicate (wrap64 (1 + tz2) : Int).toNat (⟨#[]⟩ : ByteArray)) 0 tz3 tz6) else (none)) else (none)) = some r := H
 have A6 := Aside0.mk A60
 clear A60
 obtain ⟨ji7, hji7⟩ : ∃ j_ : Int, (wrap64 (1 + tz2)) = j_ := ⟨_, rfl⟩
 replace H : (if 0 ≤ (ji7) then (if (ji7 : Int).toNat ≤ 17592186044416 then (columbariumlaw14_DiskLast.l0 k tz1 ji7 tz9 tz11 (List.replicate (ji7 : Int).toNat (⟨#[]⟩ : ByteArray)) 0 tz3 tz6) else (none)) else (none)) = some r := by first | (rw [hji7] at H; exact H) | (simp only [hji7] at H ⊢; exact H)
 (try rw [hji7] at A3)
 (try rw [hji7] at A4)
 (try rw [hji7] at A5)
 (try rw [hji7] at A6)
 have hji7w : (IntKind.i64.wrap (1 + tz2)) = ji7 := (i64_w _).trans hji7
 by_cases c8 : 0 ≤ (ji7)
 rotate_left
 ·rw [if_neg c8] at H
  exact absurd H (by simp)
 rw [if_pos c8] at H
 have c8b0 := eq_true c8
 have c8b1 : decide (0 ≤ (ji7)) = true := decide_eq_true c8
 clear c8
 by_cases c9 : (ji7 : Int).toNat ≤ 17592186044416
 rotate_left
 ·rw [if_neg c9] at H
  exact absurd H (by simp)
 rw [if_pos c9] at H
 have c9b0 := eq_true c9
 have c9b1 : decide ((ji7 : Int).toNat ≤ 17592186044416) = true := decide_eq_true c9
 clear c9
 obtain ⟨yz14, hyz14⟩ : ∃ y_ : List ByteArray, y_ = (List.replicate (ji7 : Int).toNat (⟨#[]⟩ : ByteArray)) := ⟨_, rfl⟩
 replace H : (columbariumlaw14_DiskLast.l0 k tz1 ji7 tz9 tz11 yz14 0 tz3 tz6) = some r := by first | (rw [hyz14]; with_reducible exact H) | (have H2_ := (Option.bind_some _ _).symm.trans H; rw [hyz14]; with_reducible exact H2_) | (have H2_ := (Option.bind_some _ _).symm.trans H; with_reducible exact H2_) | with_reducible exact H | (rw [hyz14]; exact H) | exact H
 have Nyz14 := am hyz14
 clear hyz14
 have H' := am H
 clear H
 go_enter Try.func4, Try.ntmps4
 go_wp2_with (first | ((with_reducible refine gate_callee (f := 12) rfl ?_); refine goesL_ (some 22) rfl rfl Try.func12 (by kernel_rfl) rfl #[] rfl (by (try simp only [List.map_toArray, List.map_cons, List.map_nil]) <;> rfl) ?_; (with_reducible refine (columbariumlaw14_awake.calls k  tz1 _ A3.out).mono ?_); rintro e w10 ⟨rfl, hb⟩; refine ⟨_, rfl, ?_⟩; have n0_ := am (below_step (pb HB) hb); clear HB; have HB := n0_; clear n0_; (try clear hi)) | ((with_reducible refine gate_callee (f := 16) rfl ?_); refine goesL_ (some 24) rfl rfl Try.func16 (by kernel_rfl) rfl #[.int .i64 a0, .int .i64 6] rfl (by (try simp only [List.map_toArray, List.map_cons, List.map_nil]) <;> rfl) ?_; (with_reducible refine (columbariumlaw14_pick.calls a0 6 tz2 _ A4.out).mono ?_); rintro e w' ⟨rfl, ⟨nd, rfl⟩⟩; refine ⟨_, rfl, ?_⟩; (try (rw [drewN_self w10]; generalize hq_ : World.drewN w10 _ = w10; have n0_ : Aside0 (Below w.heap.size w w10) := ⟨by rw [← hq_]; exact (pb HB)⟩; clear HB hq_; have HB := n0_; clear n0_))) | ((with_reducible refine gate_callee (f := 13) rfl ?_); refine goesL_ (some 28) rfl rfl Try.func13 (by kernel_rfl) rfl #[.int .i64 ji7] rfl (by (try simp only [List.map_toArray, List.map_cons, List.map_nil]); first | done | (simp only [hji7]; rfl) | rfl | (simp only [List.length_drop, List.length_take]; rfl)) ?_; (with_reducible refine (disk_New.calls ji7 tz3 tz6 tz9 _ A5.out).mono ?_); rintro e w11 ⟨vz4, vz7, rfl, ho0, ho1, hb⟩; refine ⟨_, rfl, ?_⟩; have n0_ := am (Kd.R_lower ho0 (below_size (pb HB))); have n1_ := am (Kd.R_lower ho1 (below_size (pb HB))); have n2_ := am (below_step (pb HB) hb); clear HB; have HOz5 := n0_; have HOz8 := n1_; have HB := n2_; clear n0_ n1_ n2_; (try clear ho1)) | ((with_reducible refine gate_dst (N := 7) rfl ?_); (try (refine gate_guard (by rfl) ?_; dsimp only)); refine box_event ?hg (N := 7) ?hd (cs := #[.slice none 0 0, .slice none 0 0]) (t := 30) ?hr ?_; (case hd => rfl); (case hg => rfl); (case hr => first | (go_simp; done) | (go_simp; rfl)); intro gbz10 hg w12 hbox hb; have n0_ := am (Kd.R_below (pr HOz5) hb); have n1_ := am (Kd.R_below (pr HOz8) hb); have n2_ := am (below_step (pb HB) hb); have n3_ := am (hbox); have n4_ := ge_ hg (pb HB); have n5_ := ge_ hg (pb HB); clear HOz5; clear HOz8; clear HB; have HOz5 := n0_; have HOz8 := n1_; have HB := n2_; have BKz10 := n3_; have GWz10 := n4_; have GEz10 := n5_; clear n0_ n1_ n2_ n3_ n4_ n5_; clear hb hbox hg; obtain ⟨Ao13, co13, eo13⟩ := Kd.R_slice HOz5.out; subst eo13; obtain ⟨hcz14_0, hcz14_1⟩ := bc2 BKz10; obtain ⟨hfz14_0, hfz14_1⟩ := bf2 BKz10; obtain ⟨Ao15, co15, eo15⟩ := Kd.R_slice HOz8.out; subst eo15) | ((with_reducible refine gate_callee (f := 18) rfl ?_); refine goesL_ (some 33) rfl rfl Try.func18 (by kernel_rfl) rfl #[.slice A1 l1.length c1, .int .i64 ji7] rfl (by (try simp only [List.map_toArray, List.map_cons, List.map_nil]); first | done | (simp only [hji7]; rfl) | rfl | (simp only [List.length_drop, List.length_take]; rfl)) ?_; (with_reducible refine (columbariumlaw14_Moves.calls k _ _ l1 ji7 tz11 _ ?side1 ?side2 A6.out).mono ?_); (case side1 => exact Kd.C_below HR1.out (by repeat first | (with_reducible first | exact HB.out | apply ba | apply bn | apply bd | refine bs (by assumption) ?_) | exact HB.out)); (case side2 => exact HC1.out); rintro e w16 ⟨vz12, rfl, ho0, hb⟩; refine ⟨_, rfl, ?_⟩; have n0_ := am (Kd.R_below (by (with_reducible repeat first | apply ra | apply rn | apply rd); exact (rs2 HOz5 BKz10 (by decide))) hb); have n1_ := am (Kd.R_elder' (by (with_reducible repeat first | apply ra | apply rn | apply rd); exact (rs2 HOz8 BKz10 (by decide))) (Kd.R_base ho0) hb); have n2_ := am (Kd.R_lower (Kd.R_new' ho0 (Kd.R_lt (by (with_reducible repeat first | apply ra | apply rn | apply rd); exact (rs2 HOz8 BKz10 (by decide))))) (below_size (by repeat first | (with_reducible first | exact HB.out | apply ba | apply bn | apply bd | refine bs (by assumption) ?_) | exact HB.out))); have n3_ := am (blk_below (g := gbz10) (o := .cells #[.slice Ao13 tz3.length co13, .slice Ao15 tz6.length co15] 30 (0, 0)) (by (with_reducible repeat (first | refine blk_drewN ?_ _ | refine blk_drew ?_ | refine blk_alloc ?_ _)); apply bp2; exact pk BKz10) hb); have n4_ := am (below_step (by repeat first | (with_reducible first | exact HB.out | apply ba | apply bn | apply bd | refine bs (by assumption) ?_) | exact HB.out) hb); clear HOz5; clear HOz8; clear BKz10; clear HB; have HOz5 := n0_; have HOz8 := n1_; have HOz13 := n2_; have BKz10 := n3_; have HB := n4_; clear n0_ n1_ n2_ n3_ n4_; (try clear ho0)) | ((with_reducible refine gate_dst (N := 35) rfl ?_); (try (refine gate_guard (by rfl) ?_; dsimp only)); refine Kd.R_make Kd.string _ 9 rfl (N := 35) rfl 27 _ _ rfl ji7 rfl rfl Try.underlying27 (.string ⟨#[]⟩) 16 info9 rfl (by decide) (by omega) (⟨#[]⟩ : ByteArray) (ok := fun _ => True) (okp := fun _ => True) rfl (fun _ hk => hk) trivial (of_decide_eq_true (by first | (with_reducible assumption) | assumption)) (Nat.le_trans (Nat.mul_le_mul_right _ (of_decide_eq_true (by first | (with_reducible assumption) | assumption) : ji7.toNat ≤ 17592186044416)) (by omega)) (Below.refl _ _) (Nat.le_refl _) ?_; intro vz15 w17 ho18 hb hg_ hnew_; clear hg_ hnew_; (first | rw [← Nyz14.out] at ho18 | (simp only [Int.reduceToNat] at ho18; rw [← Nyz14.out] at ho18)); have n0_ := am (Kd.R_elder' (pr HOz5) (Kd.R_base ho18) hb); have n1_ := am (Kd.R_below (pr HOz8) hb); have n2_ := am (Kd.R_below (pr HOz13) hb); have n3_ := am (Kd.R_lower (Kd.R_new' ho18 (Kd.R_lt (pr HOz5))) (below_size (by repeat first | (with_reducible first | exact HB.out | apply ba | apply bn | apply bd | refine bs (by assumption) ?_) | exact HB.out))); have n4_ := am (blk_below (pk BKz10) hb); have n5_ := am (below_step (by repeat first | (with_reducible first | exact HB.out | apply ba | apply bn | apply bd | refine bs (by assumption) ?_) | exact HB.out) hb); clear HOz5; clear HOz8; clear HOz13; clear BKz10; clear HB; have HOz5 := n0_; have HOz8 := n1_; have HOz13 := n2_; have HOz16 := n3_; have BKz10 := n4_; have HB := n5_; clear n0_ n1_ n2_ n3_ n4_ n5_; clear hb ho18))
 go_loopg [11] k (fun kq v11 w' => ∃ (x10_1 : List ByteArray) (x11_1 : Int), v11 = .int .i64 x11_1 ∧ Aside0 (columbariumlaw14_DiskLast.l0 kq tz1 ji7 tz9 tz11 x10_1 x11_1 tz3 tz6 = some r) ∧ Aside0 (kq ≤ k) ∧ Aside0 (Kd.R k24 24 w' w.heap.size (fun k_ => some k_ ≠ ((.slice Ao15 tz6.length co15) : Value).ownBlock) vz12 tz11) ∧ Aside0 (Kd.R Kd.string 9 w' w.heap.size (fun k_ => some k_ ≠ ((.slice Ao13 tz3.length co13) : Value).ownBlock) vz15 x10_1) ∧ Aside0 (Kd.R Kd.string 9 w' w.heap.size (fun k_ => some k_ ≠ (vz15 : Value).ownBlock) (.slice Ao13 tz3.length co13) tz3) ∧ Aside0 (Kd.R k24 24 w' w.heap.size (fun k_ => some k_ ≠ (vz12 : Value).ownBlock) (.slice Ao15 tz6.length co15) tz6) ∧ Aside0 (w'.heap[gbz10]? = some (.cells #[(.slice Ao13 tz3.length co13), (.slice Ao15 tz6.length co15)] 30 (0, 0))) ∧ Aside0 (Below w.heap.size w w'))
 case atStart => exact ⟨(yz14), (0), (by first | rfl | (simp; done) | (simp [*]; done)), H', ⟨Nat.le_refl _⟩, ⟨by (with_reducible repeat first | apply ra | apply rn | apply rd); exact Kd.R_mono HOz13.out (fun _ hk => hk.2)⟩, ⟨by (with_reducible repeat first | apply ra | apply rn | apply rd); exact Kd.R_mono HOz16.out (fun _ hk => hk.2)⟩, ⟨by (with_reducible repeat first | apply ra | apply rn | apply rd); exact Kd.R_mono HOz5.out (fun _ hk => hk.2)⟩, ⟨by (with_reducible repeat first | apply ra | apply rn | apply rd); exact Kd.R_mono HOz8.out (fun _ hk => hk.2)⟩, ⟨by (with_reducible repeat (first | refine blk_drewN ?_ _ | refine blk_drew ?_ | refine blk_alloc ?_ _)); exact BKz10.out⟩, ⟨by repeat first | (with_reducible first | exact HB.out | apply ba | apply bn | apply bd | refine bs (by assumption) ?_) | exact HB.out⟩⟩
 clear H'
 try clear c1
 try clear p2
 try clear c4
 try clear p6
 try clear c8
 try clear c8b0
 try clear c8b1
 try clear c9
 try clear c9b0
 try clear c9b1
 try clear c12
 try clear c13
 try clear c16
 try clear c18
 try clear hcz14_0
 try clear hcz14_1
 try clear hfz14_0
 try clear hfz14_1
 obtain ⟨x10_1, x11_1, rfl, HA, HK1, HO_9, HO_10, HO_z11000, HO_z11001, BKz10, HB⟩ := hrel
 cases gk with
 | zero => exact absurd HA.out (by simp [columbariumlaw14_DiskLast.l0])
 | succ k1 => ?_
 have H := HA.out
 clear HA
 simp only [columbariumlaw14_DiskLast.l0] at H
 by_cases c19 : x11_1 < ji7
 ·rw [if_pos c19] at H
  have c19b0 : decide (x11_1 < ji7) = true := decide_eq_true c19
  clear c19
  by_cases c20 : 64 ≤ 281474976710656
  rotate_left
  ·rw [if_neg c20] at H
   exact absurd H (by simp)
  rw [if_pos c20] at H
  have c20b0 := eq_true c20
  have c20b1 : decide (64 ≤ 281474976710656) = true := decide_eq_true c20
  clear c20
  obtain ⟨yz17, hyz17⟩ : ∃ y_ : List Int, y_ = (List.replicate 64 0) := ⟨_, rfl⟩
  replace H : (if 0 ≤ x11_1 then (if x11_1 < (x10_1.length : Int) then (columbariumlaw14_DiskLast.l0 k1 tz1 ji7 tz9 tz11 (x10_1.set (x11_1 : Int).toNat (strOfNums yz17)) (wrap64 (x11_1 + 1)) tz3 tz6) else (none)) else (none)) = some r := by first | (rw [hyz17]; with_reducible exact H) | (have H2_ := (Option.bind_some _ _).symm.trans H; rw [hyz17]; with_reducible exact H2_) | (have H2_ := (Option.bind_some _ _).symm.trans H; with_reducible exact H2_) | with_reducible exact H | (rw [hyz17]; exact H) | exact H
  have Nyz17 := am hyz17
  clear hyz17
  by_cases c21 : 0 ≤ x11_1
  rotate_left
  ·rw [if_neg c21] at H
   exact absurd H (by simp)
  rw [if_pos c21] at H
  have c21b0 : decide (0 ≤ x11_1) = true := decide_eq_true c21
  clear c21
  by_cases c22 : x11_1 < (x10_1.length : Int)
  rotate_left
  ·rw [if_neg c22] at H
   exact absurd H (by simp)
  rw [if_pos c22] at H
  have c22b0 : decide (x11_1 < (x10_1.length : Int)) = true := decide_eq_true c22
  clear c22
  obtain ⟨yz20, hyz20⟩ : ∃ y_ : List ByteArray, y_ = (x10_1.set (x11_1 : Int).toNat (strOfNums yz17)) := ⟨_, rfl⟩
  replace H : (columbariumlaw14_DiskLast.l0 k1 tz1 ji7 tz9 tz11 yz20 (wrap64 (x11_1 + 1)) tz3 tz6) = some r := by first | (rw [hyz20]; with_reducible exact H) | (have H2_ := (Option.bind_some _ _).symm.trans H; rw [hyz20]; with_reducible exact H2_) | (have H2_ := (Option.bind_some _ _).symm.trans H; with_reducible exact H2_) | with_reducible exact H | (rw [hyz20]; exact H) | exact H
  have Nyz20 := am hyz20
  clear hyz20
  have H' := am H
  clear H
  go_wp2_with (first | ((with_reducible refine gate_dst (N := 43) rfl ?_); (try (refine gate_guard (by rfl) ?_; dsimp only)); refine Kd.R_make (Kd.int .u8) _ 5 rfl (N := 43) rfl 49 _ _ rfl 64 rfl rfl Try.underlying49 (.int .u8 0) 1 info5 rfl (by decide) (by omega) 0 (ok := fun _ => True) (okp := fun _ => True) rfl (fun _ hk => hk) trivial (by omega) (by omega) (Below.refl _ _) (Nat.le_refl _) ?_; intro vz18 w24 ho25 hb hg_ hnew_; clear hg_ hnew_; (first | rw [← Nyz17.out] at ho25 | (simp only [Int.reduceToNat] at ho25; rw [← Nyz17.out] at ho25)); have n0_ := am (Kd.R_below (pr HO_9) hb); have n1_ := am (Kd.R_below (pr HO_10) hb); have n2_ := am (Kd.R_below (pr HO_z11000) hb); have n3_ := am (Kd.R_below (pr HO_z11001) hb); have n4_ := am (Kd.R_lower ho25 (below_size (by repeat first | (with_reducible first | exact HB.out | apply ba | apply bn | apply bd | refine bs (by assumption) ?_) | exact HB.out))); have n5_ := am (blk_below (pk BKz10) hb); have n6_ := am (below_step (by repeat first | (with_reducible first | exact HB.out | apply ba | apply bn | apply bd | refine bs (by assumption) ?_) | exact HB.out) hb); clear HO_9; clear HO_10; clear HO_z11000; clear HO_z11001; clear BKz10; clear HB; have HO_9 := n0_; have HO_10 := n1_; have HO_z11000 := n2_; have HO_z11001 := n3_; have HOz19 := n4_; have BKz10 := n5_; have HB := n6_; clear n0_ n1_ n2_ n3_ n4_ n5_ n6_; clear hb ho25; have hcv26 := own_string (P := Try.prog) Try.underlying49 Try.underlying5 Try.underlying9 (Kd.own_of_R HOz19.out); have p23 : 0 ≤ (x11_1 : Int) := of_decide_eq_true (by first | (with_reducible assumption) | assumption); have q23 : (x11_1 : Int) < ((x10_1.length : Int) : Int) := of_decide_eq_true (by first | (with_reducible assumption) | assumption); obtain ⟨go23, co23, eo23, gb23, gl23, cl23, HG23⟩ := Kd.R_form HO_10.out (by omega); (first | cases eo23 | (injection eo23 with ea_ en_ ec_; (first | subst ea_ | (injection ea_ with ea_; subst ea_)); subst ec_; clear en_)); have GB23 := Aside0.mk gb23; have GG23 := am HG23; clear gb23 gl23 HG23; obtain ⟨hx23_0, hf23_0⟩ := Kd.R_celln (⟨#[]⟩ : ByteArray) HO_10.out (x11_1 : Int) p23 q23; replace p23 := eq_true p23; replace q23 := eq_true q23; obtain ⟨hy27_, hz27_⟩ := Kd.R_celln (⟨#[]⟩ : ByteArray) HO_10.out (x11_1 : Int) (of_decide_eq_true (by first | (with_reducible assumption) | assumption)) (of_decide_eq_true (by first | (with_reducible assumption) | assumption)); have HP27 := Kd.R_putg HO_10.out (x11_1 : Int) (strOfNums yz17)) | ((with_reducible refine gate_store (t := 9) (p := 45) rfl ?_); refine store_event (t := 9) (p := 45) (v := ?vo_w28) (w1 := (w24.setCell ⟨go23, (x11_1 : Int).toNat, none⟩ (.string (strOfNums yz17)))) ?hg ?ho ?hn ?hr ?_; (case ho => rfl); (case hg => rfl); (case hn => rfl); (case hr => first | (go_simp; done) | (go_simp; rfl)); intro w28 hw; have hg : w24.grownBy w28 (some go23) := (by rw [hw]; exact HP27.2); have hp_ : Kd.R Kd.string 9 w28 w.heap.size (fun k_ => some k_ ≠ (.slice Ao13 tz3.length co13 : Value).ownBlock) (.slice (some ⟨go23, 0, none⟩) x10_1.length co23) yz20 := (by rw [hw, Nyz20.out]; exact HP27.1); clear HP27; have n0_ := am (Kd.R_over' (v := (.slice (some ⟨go23, 0, none⟩) x10_1.length co23)) (pr HO_9) (Kd.R_typed HO_10.out) (by decide) hg); have n1_ := am (hp_); have n2_ := am (Kd.R_after (v := (.slice (some ⟨go23, 0, none⟩) x10_1.length co23)) (v1 := (.slice (some ⟨go23, 0, none⟩) x10_1.length co23)) (ok := (fun _ => True)) (pm HO_z11000 (fun _ hk => ⟨trivial, hk⟩)) hg (.inl rfl)); have n3_ := am (Kd.R_over' (v := (.slice (some ⟨go23, 0, none⟩) x10_1.length co23)) (pr HO_z11001) (Kd.R_typed HO_10.out) (by decide) hg); have n4_ := am (blk_grown (pk BKz10) hg (Kd.R_ne HO_10.out BKz10.out (by decide))); have n5_ := am (Kd.R_over' (v := (.slice (some ⟨go23, 0, none⟩) x10_1.length co23)) (pr HOz19) (Kd.R_typed HO_10.out) (by decide) hg); have n6_ := am ((by rw [hw]; exact below_set (HB.out) GB23.out : Below w.heap.size w w28)); clear HO_9; clear HO_10; clear HO_z11000; clear HO_z11001; clear BKz10; clear HOz19; clear HB; have HO_9 := n0_; have HO_10 := n1_; have HO_z11000 := n2_; have HO_z11001 := n3_; have BKz10 := n4_; have HOz19 := n5_; have HB := n6_; clear n0_ n1_ n2_ n3_ n4_ n5_ n6_; clear hg hw hp_))
  go_roundg k1
  case measure => have := HK1.out; omega
  case rel => exact ⟨(yz20), (wrap64 (x11_1 + 1)), (by first | rfl | (simp; done) | (simp [*]; done)), H', ⟨by have := HK1.out; omega⟩, ⟨by (with_reducible repeat first | apply ra | apply rn | apply rd); exact HO_9.out⟩, ⟨by (with_reducible repeat first | apply ra | apply rn | apply rd); exact HO_10.out⟩, ⟨by (with_reducible repeat first | apply ra | apply rn | apply rd); exact Kd.R_mono HO_z11000.out (fun _ hk => hk.2)⟩, ⟨by (with_reducible repeat first | apply ra | apply rn | apply rd); exact HO_z11001.out⟩, ⟨by (with_reducible repeat (first | refine blk_drewN ?_ _ | refine blk_drew ?_ | refine blk_alloc ?_ _)); exact BKz10.out⟩, ⟨by repeat first | (with_reducible first | exact HB.out | apply ba | apply bn | apply bd | refine bs (by assumption) ?_) | exact HB.out⟩⟩
 rw [if_neg c19] at H
 have c19b0 : decide (x11_1 < ji7) = false := decide_eq_false c19
 clear c19
 have H' := am H
 clear H
 go_wp2
 go_loopg [12] k1 (fun kq v12 w' => ∃ (x10_2 : List ByteArray) (x12_2 : Int) (xz11000_2 : List ByteArray) (xz11001_2 : List (S24)) (uz11000 : Value) (uz11001 : Value), v12 = .int .i64 x12_2 ∧ Aside0 (columbariumlaw14_DiskLast.l1 kq tz1 ji7 tz9 tz11 x10_2 x12_2 xz11000_2 xz11001_2 = some r) ∧ Aside0 (kq ≤ k1) ∧ Aside0 (Kd.R k24 24 w' w.heap.size (fun k_ => some k_ ≠ (uz11001 : Value).ownBlock) vz12 tz11) ∧ Aside0 (Kd.R Kd.string 9 w' w.heap.size (fun k_ => some k_ ≠ (uz11000 : Value).ownBlock) vz15 x10_2) ∧ Aside0 (Kd.R Kd.string 9 w' w.heap.size (fun k_ => some k_ ≠ (vz15 : Value).ownBlock) uz11000 xz11000_2) ∧ Aside0 (Kd.R k24 24 w' w.heap.size (fun k_ => some k_ ≠ (vz12 : Value).ownBlock) uz11001 xz11001_2) ∧ Aside0 (w'.heap[gbz10]? = some (.cells #[uz11000, uz11001] 30 (0, 0))) ∧ Aside0 (Below w.heap.size w w'))
 case atStart => exact ⟨(x10_1), (0), (tz3), (tz6), (.slice Ao13 tz3.length co13), (.slice Ao15 tz6.length co15), (by first | rfl | (simp; done) | (simp [*]; done)), H', ⟨Nat.le_refl _⟩, ⟨by (with_reducible repeat first | apply ra | apply rn | apply rd); exact HO_9.out⟩, ⟨by (with_reducible repeat first | apply ra | apply rn | apply rd); exact HO_10.out⟩, ⟨by (with_reducible repeat first | apply ra | apply rn | apply rd); exact HO_z11000.out⟩, ⟨by (with_reducible repeat first | apply ra | apply rn | apply rd); exact HO_z11001.out⟩, ⟨by (with_reducible repeat (first | refine blk_drewN ?_ _ | refine blk_drew ?_ | refine blk_alloc ?_ _)); exact BKz10.out⟩, ⟨by repeat first | (with_reducible first | exact HB.out | apply ba | apply bn | apply bd | refine bs (by assumption) ?_) | exact HB.out⟩⟩
 clear H'
 try clear c1
 try clear c2
 try clear p2
 try clear q2
 try clear hx2
 try clear hcv2
 try clear hf2
 try clear c4
 try clear p6
 try clear c8
 try clear c8b0
 try clear c8b1
 try clear c9
 try clear c9b0
 try clear c9b1
 try clear c12
 try clear c13
 try clear c16
 try clear c18
 try clear c19
 try clear c19b0
 try clear c20
 try clear c20b0
 try clear c20b1
 try clear c21
 try clear c21b0
 try clear c22
 try clear c22b0
 try clear p23
 try clear q23
 try clear hx23
 try clear hf23
 try clear hcv26
 try clear hcz14_0
 try clear hcz14_1
 try clear hfz14_0
 try clear hfz14_1
 try clear hx23_0
 try clear p2
 try clear p23
 try clear p6
 try clear q23
 obtain ⟨x10_2, x12_2, xz11000_2, xz11001_2, uz11000, uz11001, rfl, HA, HK2, HO_9, HO_10, HO_z11000, HO_z11001, BKz10, HB⟩ := hrel
 cases gk with
 | zero => exact absurd HA.out (by simp [columbariumlaw14_DiskLast.l1])
 | succ k2 => ?_
 have H := HA.out
 clear HA
 simp only [columbariumlaw14_DiskLast.l1] at H
 by_cases c29 : x12_2 < (tz11.length : Int)
 rotate_left
 ·rw [if_neg c29] at H
  have c29b0 : decide (x12_2 < (tz11.length : Int)) = false := decide_eq_false c29
  clear c29
  obtain ⟨yz38, hyz38⟩ : ∃ y_ : List (S24), y_ = (([(⟨true, 0, (⟨#[]⟩ : ByteArray)⟩ : S24)] : List (S24))) := ⟨_, rfl⟩
  replace H : ((disk_Do.f xz11000_2 xz11001_2 yz38).bind fun btz41 => (if tz9 = 0 then (if btz41.2.2 = 0 then (if (btz41.2.1.length : Int) = 0 then (columbariumlaw14_DiskLast.j3 k2 tz1 ji7 x10_2 ((btz41.1.length : Int) != ji7) xz11000_2 xz11001_2 btz41.1 btz41.2.1) else (columbariumlaw14_DiskLast.j3 k2 tz1 ji7 x10_2 true xz11000_2 xz11001_2 btz41.1 btz41.2.1)) else (columbariumlaw14_DiskLast.j3 k2 tz1 ji7 x10_2 true xz11000_2 xz11001_2 btz41.1 btz41.2.1)) else (columbariumlaw14_DiskLast.j3 k2 tz1 ji7 x10_2 true xz11000_2 xz11001_2 btz41.1 btz41.2.1))) = some r := by first | (rw [hyz38]; with_reducible exact H) | (have H2_ := (Option.bind_some _ _).symm.trans H; rw [hyz38]; with_reducible exact H2_) | (have H2_ := (Option.bind_some _ _).symm.trans H; with_reducible exact H2_) | with_reducible exact H | (rw [hyz38]; exact H) | exact H
  have Nyz38 := am hyz38
  clear hyz38
  replace H := ob_ H
  obtain ⟨⟨tz41, tz44, tz47⟩, A690, H⟩ := H
  replace H : (if tz9 = 0 then (if tz47 = 0 then (if (tz44.length : Int) = 0 then (columbariumlaw14_DiskLast.j3 k2 tz1 ji7 x10_2 ((tz41.length : Int) != ji7) xz11000_2 xz11001_2 tz41 tz44) else (columbariumlaw14_DiskLast.j3 k2 tz1 ji7 x10_2 true xz11000_2 xz11001_2 tz41 tz44)) else (columbariumlaw14_DiskLast.j3 k2 tz1 ji7 x10_2 true xz11000_2 xz11001_2 tz41 tz44)) else (columbariumlaw14_DiskLast.j3 k2 tz1 ji7 x10_2 true xz11000_2 xz11001_2 tz41 tz44)) = some r := H
  have A69 := Aside0.mk A690
  clear A690
  have HC70 := am H
  clear H
  obtain ⟨Ao71, co71, eo71⟩ := Kd.R_slice HO_9.out
  subst eo71
  obtain ⟨hcz72_0, hcz72_1⟩ := bc2 BKz10
  obtain ⟨hfz72_0, hfz72_1⟩ := bf2 BKz10
  go_upto_region 20 with (first | ((with_reducible refine gate_dst (N := 91) rfl ?_); (try (refine gate_guard (by rfl) ?_; dsimp only)); refine Kd.R_lit k24 _ 24 ?hg (N := 91) ?hd (xs := ([(⟨true, 0, (⟨#[]⟩ : ByteArray)⟩ : S24)] : List (S24))) (inner := [.bool true, .int .i64 0, .string (⟨#[]⟩ : ByteArray)]) (ok := fun _ => True) (okp := fun _ => True) ?hr ?hp (fun _ hk => hk) trivial (Below.refl _ _) (Nat.le_refl _) (by simp) ?_; (case hd => rfl); (case hg => rfl); (case hr => first | (go_simp; done) | (go_simp; rfl)); (case hp => exact (Reps.c3 (show Kd.M k24 _ _ _ (⟨true, 0, (⟨#[]⟩ : ByteArray)⟩ : S24) [.bool true, .int .i64 0, .string (⟨#[]⟩ : ByteArray)] from (k24_mkM _ _ _ (⟨true, 0, (⟨#[]⟩ : ByteArray)⟩ : S24) )) (Reps.none _ _))); intro vz39 w73 ho74 hb hg_ hnew_; clear hg_ hnew_; (first | rw [← Nyz38.out] at ho74 | (simp only [Int.reduceToNat] at ho74; rw [← Nyz38.out] at ho74)); have n0_ := am (Kd.R_elder' (pr HO_9) (Kd.R_base ho74) hb); have n1_ := am (Kd.R_below (pr HO_10) hb); have n2_ := am (Kd.R_below (pr HO_z11000) hb); have n3_ := am (Kd.R_elder' (pr HO_z11001) (Kd.R_base ho74) hb); have n4_ := am (Kd.R_lower (Kd.R_new' (Kd.R_new' ho74 (Kd.R_lt (pr HO_9))) (Kd.R_lt (pr HO_z11001))) (below_size (by repeat first | (with_reducible first | exact HB.out | apply ba | apply bn | apply bd | refine bs (by assumption) ?_) | exact HB.out))); have n5_ := am (blk_below (pk BKz10) hb); have n6_ := am (below_step (by repeat first | (with_reducible first | exact HB.out | apply ba | apply bn | apply bd | refine bs (by assumption) ?_) | exact HB.out) hb); clear HO_9; clear HO_10; clear HO_z11000; clear HO_z11001; clear BKz10; clear HB; have HO_9 := n0_; have HO_10 := n1_; have HO_z11000 := n2_; have HO_z11001 := n3_; have HOz40 := n4_; have BKz10 := n5_; have HB := n6_; clear n0_ n1_ n2_ n3_ n4_ n5_ n6_; clear hb ho74; obtain ⟨Ao75, co75, eo75⟩ := Kd.R_slice HO_z11000.out; subst eo75; obtain ⟨Ao76, co76, eo76⟩ := Kd.R_slice HO_z11001.out; subst eo76; obtain ⟨Ao77, co77, eo77⟩ := Kd.R_slice HOz40.out; subst eo77) | ((with_reducible refine gate_callee (f := 25) rfl ?_); refine goesL_ (some 92) rfl rfl Try.func25 (by kernel_rfl) rfl #[.agg #[.slice Ao75 xz11000_2.length co75, .slice Ao76 xz11001_2.length co76], .slice Ao77 yz38.length co77] rfl (by (try simp only [List.map_toArray, List.map_cons, List.map_nil]) <;> rfl) ?_; (with_reducible refine (disk_Do.calls _ _ xz11000_2 _ _ xz11001_2 _ _ yz38 tz41 tz44 tz47 _ ?side1 ?side2 ?side3 ?side4 ?side5 ?side6 A69.out).mono ?_); (case side1 => repeat (first | exact (Kd.R_reads' HO_z11000.out).2.2 | (with_reducible refine Kd.C_alloc ?_ _) | (with_reducible refine Kd.C_drewN ?_ _) | (with_reducible refine Kd.C_drew ?_))); (case side2 => exact (Kd.R_reads' HO_z11000.out).2.1); (case side3 => repeat (first | exact (Kd.R_reads' HO_z11001.out).2.2 | (with_reducible refine Kd.C_alloc ?_ _) | (with_reducible refine Kd.C_drewN ?_ _) | (with_reducible refine Kd.C_drew ?_))); (case side4 => exact (Kd.R_reads' HO_z11001.out).2.1); (case side5 => repeat (first | exact (Kd.R_reads' HOz40.out).2.2 | (with_reducible refine Kd.C_alloc ?_ _) | (with_reducible refine Kd.C_drewN ?_ _) | (with_reducible refine Kd.C_drew ?_))); (case side6 => exact (Kd.R_reads' HOz40.out).2.1); rintro e w78 ⟨vz42, vz45, rfl, ho0, ho1, hb⟩; refine ⟨_, rfl, ?_⟩; have n0_ := am (Kd.R_elder' (pr HO_9) (Kd.R_base ho1) hb); have n1_ := am (Kd.R_elder' (pr HO_10) (Kd.R_base ho0) hb); have n2_ := am (Kd.R_elder' (pr HO_z11000) (Kd.R_base ho0) hb); have n3_ := am (Kd.R_elder' (pr HO_z11001) (Kd.R_base ho1) hb); have n4_ := am (Kd.R_elder' (pr HOz40) (Kd.R_base ho1) hb); have n5_ := am (Kd.R_lower (Kd.R_new' (Kd.R_new' ho0 (Kd.R_lt (pr HO_10))) (Kd.R_lt (pr HO_z11000))) (below_size (by repeat first | (with_reducible first | exact HB.out | apply ba | apply bn | apply bd | refine bs (by assumption) ?_) | exact HB.out))); have n6_ := am (Kd.R_lower (Kd.R_new' (Kd.R_new' (Kd.R_new' ho1 (Kd.R_lt (pr HO_9))) (Kd.R_lt (pr HO_z11001))) (Kd.R_lt (pr HOz40))) (below_size (by repeat first | (with_reducible first | exact HB.out | apply ba | apply bn | apply bd | refine bs (by assumption) ?_) | exact HB.out))); have n7_ := am (blk_below (pk BKz10) hb); have n8_ := am (below_step (by repeat first | (with_reducible first | exact HB.out | apply ba | apply bn | apply bd | refine bs (by assumption) ?_) | exact HB.out) hb); clear HO_9; clear HO_10; clear HO_z11000; clear HO_z11001; clear HOz40; clear BKz10; clear HB; have HO_9 := n0_; have HO_10 := n1_; have HO_z11000 := n2_; have HO_z11001 := n3_; have HOz40 := n4_; have HOz43 := n5_; have HOz46 := n6_; have BKz10 := n7_; have HB := n8_; clear n0_ n1_ n2_ n3_ n4_ n5_ n6_ n7_ n8_; (try clear ho1)) | ((with_reducible refine gate_dst (N := 15) rfl ?_); (try (refine gate_guard (by rfl) ?_; dsimp only)); refine box_event ?hg (N := 15) ?hd (cs := #[.slice none 0 0, .slice none 0 0]) (t := 30) ?hr ?_; (case hd => rfl); (case hg => rfl); (case hr => first | (go_simp; done) | (go_simp; rfl)); intro gbz48 hg w79 hbox hb; have n0_ := am (Kd.R_below (pr HO_9) hb); have n1_ := am (Kd.R_below (pr HO_10) hb); have n2_ := am (Kd.R_below (pr HO_z11000) hb); have n3_ := am (Kd.R_below (pr HO_z11001) hb); have n4_ := am (Kd.R_below (pr HOz40) hb); have n5_ := am (Kd.R_below (pr HOz43) hb); have n6_ := am (Kd.R_below (pr HOz46) hb); have n7_ := am (blk_below (pk BKz10) hb); have n8_ := am (below_step (by repeat first | (with_reducible first | exact HB.out | apply ba | apply bn | apply bd | refine bs (by assumption) ?_) | exact HB.out) hb); have n9_ := am (hbox); have n10_ := ge_ hg (by repeat first | (with_reducible first | exact HB.out | apply ba | apply bn | apply bd | refine bs (by assumption) ?_) | exact HB.out); have n11_ := ge_ hg (by repeat first | (with_reducible first | exact HB.out | apply ba | apply bn | apply bd | refine bs (by assumption) ?_) | exact HB.out); have n12_ := nl_ hg BKz10; have n13_ := ng_ hg BKz10; clear HO_9; clear HO_10; clear HO_z11000; clear HO_z11001; clear HOz40; clear HOz43; clear HOz46; clear BKz10; clear HB; have HO_9 := n0_; have HO_10 := n1_; have HO_z11000 := n2_; have HO_z11001 := n3_; have HOz40 := n4_; have HOz43 := n5_; have HOz46 := n6_; have BKz10 := n7_; have HB := n8_; have BKz48 := n9_; have GWz48 := n10_; have GEz48 := n11_; have NBz10_z48 := n12_; have NBz48_z10 := n13_; clear n0_ n1_ n2_ n3_ n4_ n5_ n6_ n7_ n8_ n9_ n10_ n11_ n12_ n13_; clear hb hbox hg; obtain ⟨Ao80, co80, eo80⟩ := Kd.R_slice HOz43.out; subst eo80; have hnb81 := NBz48_z10.out; have hnc81 := NBz10_z48.out; obtain ⟨hcz82_0, hcz82_1⟩ := bc2 BKz48; obtain ⟨hfz82_0, hfz82_1⟩ := bf2 BKz48; obtain ⟨Ao83, co83, eo83⟩ := Kd.R_slice HOz46.out; subst eo83))
  (try simp only [Act.put, List.setIfInBounds_toArray, List.set_cons_zero, List.set_cons_succ])
  go_cut [113] (fun v113 wc => ∃ (kq : Nat) (x113_69 : Bool), v113 = .bool x113_69 ∧ Aside0 (columbariumlaw14_DiskLast.j3 kq tz1 ji7 x10_2 x113_69 xz11000_2 xz11001_2 tz41 tz44 = some r) ∧ Aside0 (kq ≤ k2) ∧ Aside0 (Kd.R Kd.string 9 wc w.heap.size (fun k_ => some k_ ≠ ((.slice Ao75 xz11000_2.length co75) : Value).ownBlock ∧ some k_ ≠ ((.slice Ao80 tz41.length co80) : Value).ownBlock) vz15 x10_2) ∧ Aside0 (Kd.R Kd.string 9 wc w.heap.size (fun k_ => some k_ ≠ (vz15 : Value).ownBlock ∧ some k_ ≠ ((.slice Ao80 tz41.length co80) : Value).ownBlock) (.slice Ao75 xz11000_2.length co75) xz11000_2) ∧ Aside0 (Kd.R k24 24 wc w.heap.size (fun k_ => some k_ ≠ ((.slice Ao83 tz44.length co83) : Value).ownBlock) (.slice Ao76 xz11001_2.length co76) xz11001_2) ∧ Aside0 (Kd.R Kd.string 9 wc w.heap.size (fun k_ => some k_ ≠ (vz15 : Value).ownBlock ∧ some k_ ≠ ((.slice Ao75 xz11000_2.length co75) : Value).ownBlock) (.slice Ao80 tz41.length co80) tz41) ∧ Aside0 (Kd.R k24 24 wc w.heap.size (fun k_ => some k_ ≠ ((.slice Ao76 xz11001_2.length co76) : Value).ownBlock) (.slice Ao83 tz44.length co83) tz44) ∧ Aside0 (wc.heap[gbz10]? = some (.cells #[(.slice Ao75 xz11000_2.length co75), (.slice Ao76 xz11001_2.length co76)] 30 (0, 0))) ∧ Aside0 (wc.heap[gbz48]? = some (.cells #[(.slice Ao80 tz41.length co80), (.slice Ao83 tz44.length co83)] 30 (0, 0))) ∧ Aside0 (Below w.heap.size w wc))
  case first =>
   have H := HC70.out
   clear HC70
   by_cases c84 : tz9 = 0
   rotate_left
   ·rw [if_neg c84] at H
    have c84b0 : (tz9 == 0) = false := beq_eq_false_iff_ne.mpr c84
    have c84b1 : (tz9 != 0) = true := bne_iff_ne.mpr c84
    (first | rw [c84b0] | rw [c84b1] | (simp only [i64_w, i32_w]; rw [c84b0]) | skip)
    have H' := am H
    clear H
    go_wp2
    go_meet
    case rel => exact ⟨_, (true), (by first | rfl | (simp; done) | (simp [*]; done)), H', ⟨by have := HK1.out; have := HK2.out; first | omega | exact Nat.le_refl _⟩, ⟨by (with_reducible repeat first | apply ra | apply rn | apply rd); exact Kd.R_mono (rf2 (Kd.R_types HO_10.out BKz48.out (by decide)) (fun _ hk => hk.2)) (fun _ hk => ⟨hk.1.1, hk.1.2⟩)⟩, ⟨by (with_reducible repeat first | apply ra | apply rn | apply rd); exact Kd.R_mono (rf2 (Kd.R_types HO_z11000.out BKz48.out (by decide)) (fun _ hk => hk.2)) (fun _ hk => ⟨hk.1.1, hk.1.2⟩)⟩, ⟨by (with_reducible repeat first | apply ra | apply rn | apply rd); exact Kd.R_mono (rf2 (Kd.R_types HO_z11001.out BKz48.out (by decide)) (fun _ hk => hk.2)) (fun _ hk => hk.1.2)⟩, ⟨by (with_reducible repeat first | apply ra | apply rn | apply rd); exact Kd.R_mono (rf2 (Kd.R_types HOz43.out BKz48.out (by decide)) (fun _ hk => hk.2)) (fun _ hk => ⟨hk.1.1.2, hk.1.2⟩)⟩, ⟨by (with_reducible repeat first | apply ra | apply rn | apply rd); exact Kd.R_mono (rf2 (Kd.R_types HOz46.out BKz48.out (by decide)) (fun _ hk => hk.2)) (fun _ hk => hk.1.1.2)⟩, ⟨by (with_reducible repeat (first | refine blk_drewN ?_ _ | refine blk_drew ?_ | refine blk_alloc ?_ _)); refine blk_far ?_ NBz10_z48.out _; refine blk_far ?_ NBz10_z48.out _; (with_reducible repeat (first | refine blk_drewN ?_ _ | refine blk_drew ?_ | refine blk_alloc ?_ _)); exact BKz10.out⟩, ⟨by (with_reducible repeat (first | refine blk_drewN ?_ _ | refine blk_drew ?_ | refine blk_alloc ?_ _)); apply bp2; (with_reducible repeat (first | refine blk_drewN ?_ _ | refine blk_drew ?_ | refine blk_alloc ?_ _)); exact BKz48.out⟩, ⟨by repeat first | (with_reducible first | exact HB.out | apply ba | apply bn | apply bd | refine bs (by assumption) ?_) | exact HB.out⟩⟩
   rw [if_pos c84] at H
   have c84b0 : (tz9 == 0) = true := beq_iff_eq.mpr c84
   have c84b1 : (tz9 != 0) = false := bne_eq_false_iff_eq.mpr c84
   clear c84
   (first | rw [c84b0] | rw [c84b1] | (simp only [i64_w, i32_w]; rw [c84b0]) | skip)
   by_cases c85 : tz47 = 0
   rotate_left
   ·rw [if_neg c85] at H
    have c85b0 : (tz47 == 0) = false := beq_eq_false_iff_ne.mpr c85
    have c85b1 : (tz47 != 0) = true := bne_iff_ne.mpr c85
    have H' := am H
    clear H
    go_wp2
    go_meet
    case rel => exact ⟨_, (true), (by first | rfl | (simp; done) | (simp [*]; done)), H', ⟨by have := HK1.out; have := HK2.out; first | omega | exact Nat.le_refl _⟩, ⟨by (with_reducible repeat first | apply ra | apply rn | apply rd); exact Kd.R_mono (rf2 (Kd.R_types HO_10.out BKz48.out (by decide)) (fun _ hk => hk.2)) (fun _ hk => ⟨hk.1.1, hk.1.2⟩)⟩, ⟨by (with_reducible repeat first | apply ra | apply rn | apply rd); exact Kd.R_mono (rf2 (Kd.R_types HO_z11000.out BKz48.out (by decide)) (fun _ hk => hk.2)) (fun _ hk => ⟨hk.1.1, hk.1.2⟩)⟩, ⟨by (with_reducible repeat first | apply ra | apply rn | apply rd); exact Kd.R_mono (rf2 (Kd.R_types HO_z11001.out BKz48.out (by decide)) (fun _ hk => hk.2)) (fun _ hk => hk.1.2)⟩, ⟨by (with_reducible repeat first | apply ra | apply rn | apply rd); exact Kd.R_mono (rf2 (Kd.R_types HOz43.out BKz48.out (by decide)) (fun _ hk => hk.2)) (fun _ hk => ⟨hk.1.1.2, hk.1.2⟩)⟩, ⟨by (with_reducible repeat first | apply ra | apply rn | apply rd); exact Kd.R_mono (rf2 (Kd.R_types HOz46.out BKz48.out (by decide)) (fun _ hk => hk.2)) (fun _ hk => hk.1.1.2)⟩, ⟨by (with_reducible repeat (first | refine blk_drewN ?_ _ | refine blk_drew ?_ | refine blk_alloc ?_ _)); refine blk_far ?_ NBz10_z48.out _; refine blk_far ?_ NBz10_z48.out _; (with_reducible repeat (first | refine blk_drewN ?_ _ | refine blk_drew ?_ | refine blk_alloc ?_ _)); exact BKz10.out⟩, ⟨by (with_reducible repeat (first | refine blk_drewN ?_ _ | refine blk_drew ?_ | refine blk_alloc ?_ _)); apply bp2; (with_reducible repeat (first | refine blk_drewN ?_ _ | refine blk_drew ?_ | refine blk_alloc ?_ _)); exact BKz48.out⟩, ⟨by repeat first | (with_reducible first | exact HB.out | apply ba | apply bn | apply bd | refine bs (by assumption) ?_) | exact HB.out⟩⟩
   rw [if_pos c85] at H
   have c85b0 : (tz47 == 0) = true := beq_iff_eq.mpr c85
   have c85b1 : (tz47 != 0) = false := bne_eq_false_iff_eq.mpr c85
   clear c85
   by_cases c86 : (tz44.length : Int) = 0
   rotate_left
   ·rw [if_neg c86] at H
    have c86b0 : ((tz44.length : Int) == 0) = false := beq_eq_false_iff_ne.mpr c86
    have c86b1 : ((tz44.length : Int) != 0) = true := bne_iff_ne.mpr c86
    have c86b2 : ¬ (tz44 = []) := fun h_ => c86 (by rw [h_]; rfl)
    have H' := am H
    clear H
    have hnb89 := NBz48_z10.out
    have hnc89 := NBz10_z48.out
    obtain ⟨hcz90_0, hcz90_1⟩ := bc2 BKz48
    obtain ⟨hfz90_0, hfz90_1⟩ := bf2 BKz48
    go_wp2
    go_meet
    case rel => exact ⟨_, (true), (by first | rfl | (simp; done) | (simp [*]; done)), H', ⟨by have := HK1.out; have := HK2.out; first | omega | exact Nat.le_refl _⟩, ⟨by (with_reducible repeat first | apply ra | apply rn | apply rd); exact Kd.R_mono (rf2 (Kd.R_types HO_10.out BKz48.out (by decide)) (fun _ hk => hk.2)) (fun _ hk => ⟨hk.1.1, hk.1.2⟩)⟩, ⟨by (with_reducible repeat first | apply ra | apply rn | apply rd); exact Kd.R_mono (rf2 (Kd.R_types HO_z11000.out BKz48.out (by decide)) (fun _ hk => hk.2)) (fun _ hk => ⟨hk.1.1, hk.1.2⟩)⟩, ⟨by (with_reducible repeat first | apply ra | apply rn | apply rd); exact Kd.R_mono (rf2 (Kd.R_types HO_z11001.out BKz48.out (by decide)) (fun _ hk => hk.2)) (fun _ hk => hk.1.2)⟩, ⟨by (with_reducible repeat first | apply ra | apply rn | apply rd); exact Kd.R_mono (rf2 (Kd.R_types HOz43.out BKz48.out (by decide)) (fun _ hk => hk.2)) (fun _ hk => ⟨hk.1.1.2, hk.1.2⟩)⟩, ⟨by (with_reducible repeat first | apply ra | apply rn | apply rd); exact Kd.R_mono (rf2 (Kd.R_types HOz46.out BKz48.out (by decide)) (fun _ hk => hk.2)) (fun _ hk => hk.1.1.2)⟩, ⟨by (with_reducible repeat (first | refine blk_drewN ?_ _ | refine blk_drew ?_ | refine blk_alloc ?_ _)); refine blk_far ?_ NBz10_z48.out _; refine blk_far ?_ NBz10_z48.out _; (with_reducible repeat (first | refine blk_drewN ?_ _ | refine blk_drew ?_ | refine blk_alloc ?_ _)); exact BKz10.out⟩, ⟨by (with_reducible repeat (first | refine blk_drewN ?_ _ | refine blk_drew ?_ | refine blk_alloc ?_ _)); apply bp2; (with_reducible repeat (first | refine blk_drewN ?_ _ | refine blk_drew ?_ | refine blk_alloc ?_ _)); exact BKz48.out⟩, ⟨by repeat first | (with_reducible first | exact HB.out | apply ba | apply bn | apply bd | refine bs (by assumption) ?_) | exact HB.out⟩⟩
   rw [if_pos c86] at H
   have c86b0 : ((tz44.length : Int) == 0) = true := beq_iff_eq.mpr c86
   have c86b1 : ((tz44.length : Int) != 0) = false := bne_eq_false_iff_eq.mpr c86
   clear c86
   have H' := am H
   clear H
   have hnb87 := NBz48_z10.out
   have hnc87 := NBz10_z48.out
   obtain ⟨hcz88_0, hcz88_1⟩ := bc2 BKz48
   obtain ⟨hfz88_0, hfz88_1⟩ := bf2 BKz48
   go_wp2
   go_meet
   case rel => exact ⟨_, (((tz41.length : Int) != ji7)), (by first | rfl | (simp; done) | (simp only [← hji7] <;> (first | rfl | simp)) | (simp [*]; done)), H', ⟨by have := HK1.out; have := HK2.out; first | omega | exact Nat.le_refl _⟩, ⟨by (with_reducible repeat first | apply ra | apply rn | apply rd); exact Kd.R_mono (rf2 (Kd.R_types HO_10.out BKz48.out (by decide)) (fun _ hk => hk.2)) (fun _ hk => ⟨hk.1.1, hk.1.2⟩)⟩, ⟨by (with_reducible repeat first | apply ra | apply rn | apply rd); exact Kd.R_mono (rf2 (Kd.R_types HO_z11000.out BKz48.out (by decide)) (fun _ hk => hk.2)) (fun _ hk => ⟨hk.1.1, hk.1.2⟩)⟩, ⟨by (with_reducible repeat first | apply ra | apply rn | apply rd); exact Kd.R_mono (rf2 (Kd.R_types HO_z11001.out BKz48.out (by decide)) (fun _ hk => hk.2)) (fun _ hk => hk.1.2)⟩, ⟨by (with_reducible repeat first | apply ra | apply rn | apply rd); exact Kd.R_mono (rf2 (Kd.R_types HOz43.out BKz48.out (by decide)) (fun _ hk => hk.2)) (fun _ hk => ⟨hk.1.1.2, hk.1.2⟩)⟩, ⟨by (with_reducible repeat first | apply ra | apply rn | apply rd); exact Kd.R_mono (rf2 (Kd.R_types HOz46.out BKz48.out (by decide)) (fun _ hk => hk.2)) (fun _ hk => hk.1.1.2)⟩, ⟨by (with_reducible repeat (first | refine blk_drewN ?_ _ | refine blk_drew ?_ | refine blk_alloc ?_ _)); refine blk_far ?_ NBz10_z48.out _; refine blk_far ?_ NBz10_z48.out _; (with_reducible repeat (first | refine blk_drewN ?_ _ | refine blk_drew ?_ | refine blk_alloc ?_ _)); exact BKz10.out⟩, ⟨by (with_reducible repeat (first | refine blk_drewN ?_ _ | refine blk_drew ?_ | refine blk_alloc ?_ _)); apply bp2; (with_reducible repeat (first | refine blk_drewN ?_ _ | refine blk_drew ?_ | refine blk_alloc ?_ _)); exact BKz48.out⟩, ⟨by repeat first | (with_reducible first | exact HB.out | apply ba | apply bn | apply bd | refine bs (by assumption) ?_) | exact HB.out⟩⟩
  clear HC70
  try clear c2
  try clear p2
  try clear c3
  try clear c4
  try clear p4
  try clear q4
  try clear hx4
  try clear c5
  try clear q5
  try clear c6
  try clear p6
  try clear q6
  try clear hx6
  try clear hf6
  try clear c8
  try clear c25
  try clear c29
  try clear c29b0
  try clear c30
  try clear p40
  try clear q40
  try clear hx40
  try clear c47
  try clear c47b0
  try clear c47b1
  try clear c49
  try clear c52
  try clear c53
  try clear c53b0
  try clear c54
  try clear c54b0
  try clear q55
  try clear c56
  try clear c57
  try clear c60
  try clear c60b0
  try clear c61
  try clear c61b0
  try clear p62
  try clear q62
  try clear hx62
  try clear hf62
  try clear c63
  try clear p64
  try clear c81
  try clear c84
  try clear c84b0
  try clear c84b1
  try clear c85
  try clear c85b0
  try clear c85b1
  try clear c86
  try clear c86b0
  try clear c86b1
  try clear c86b2
  try clear c87
  try clear c89
  try clear hcz50_0
  try clear hcz50_1
  try clear hcz58_0
  try clear hcz58_1
  try clear hcz59_0
  try clear hcz59_1
  try clear hcz64_0
  try clear hcz64_1
  try clear hcz65_0
  try clear hcz65_1
  try clear hcz72_0
  try clear hcz72_1
  try clear hcz82_0
  try clear hcz82_1
  try clear hcz88_0
  try clear hcz88_1
  try clear hcz90_0
  try clear hcz90_1
  try clear hfz50_0
  try clear hfz50_1
  try clear hfz58_0
  try clear hfz58_1
  try clear hfz59_0
  try clear hfz59_1
  try clear hfz64_0
  try clear hfz64_1
  try clear hfz65_0
  try clear hfz65_1
  try clear hfz72_0
  try clear hfz72_1
  try clear hfz82_0
  try clear hfz82_1
  try clear hfz88_0
  try clear hfz88_1
  try clear hfz90_0
  try clear hfz90_1
  try clear hxz34_0
  try clear hxz34_1
  try clear hxz34_2
  try clear hxz35_0
  try clear hxz35_1
  try clear hxz35_2
  try clear hxz36_0
  try clear hxz36_1
  try clear hxz36_2
  try clear hx62_0
  try clear p2
  try clear pz34
  try clear pz35
  try clear pz36
  try clear p62
  try clear qz34
  try clear qz35
  try clear qz36
  try clear q62
  obtain ⟨kq, x113_69, rfl, HA, HJ69, HO_10, HO_z11000, HO_z11001, HO_z49000, HO_z49001, BKz10, BKz48, HB⟩ := hcut
  cases kq with
  | zero => exact absurd HA.out (by simp [columbariumlaw14_DiskLast.j3])
  | succ kj69 => ?_
  have H := HA.out
  clear HA
  simp only [columbariumlaw14_DiskLast.j3] at H
  by_cases c91 : x113_69 = true
  ·subst c91
   have H1 : (none) = some r := by rw [if_pos rfl] at H; exact H
   clear H
   have H := H1
   clear H1
   exact absurd H (by simp)
  replace c91 := Bool.eq_false_iff.mpr c91
  subst c91
  have H1 : (columbariumlaw14_DiskLast.l2 kj69 tz1 ji7 x10_2 0 xz11000_2 xz11001_2 tz41 tz44) = some r := by rw [if_neg (show ¬ (false = true) by decide)] at H; exact H
  clear H
  have H := H1
  clear H1
  have H' := am H
  clear H
  go_wp2
  go_loopg [17] kj69 (fun kq v17 w' => ∃ (x17_4 : Int), v17 = .int .i64 x17_4 ∧ Aside0 (columbariumlaw14_DiskLast.l2 kq tz1 ji7 x10_2 x17_4 xz11000_2 xz11001_2 tz41 tz44 = some r) ∧ Aside0 (kq ≤ kj69) ∧ Aside0 (Kd.R Kd.string 9 w' w.heap.size (fun k_ => some k_ ≠ ((.slice Ao75 xz11000_2.length co75) : Value).ownBlock ∧ some k_ ≠ ((.slice Ao80 tz41.length co80) : Value).ownBlock) vz15 x10_2) ∧ Aside0 (Kd.R Kd.string 9 w' w.heap.size (fun k_ => some k_ ≠ (vz15 : Value).ownBlock ∧ some k_ ≠ ((.slice Ao80 tz41.length co80) : Value).ownBlock) (.slice Ao75 xz11000_2.length co75) xz11000_2) ∧ Aside0 (Kd.R k24 24 w' w.heap.size (fun k_ => some k_ ≠ ((.slice Ao83 tz44.length co83) : Value).ownBlock) (.slice Ao76 xz11001_2.length co76) xz11001_2) ∧ Aside0 (Kd.R Kd.string 9 w' w.heap.size (fun k_ => some k_ ≠ (vz15 : Value).ownBlock ∧ some k_ ≠ ((.slice Ao75 xz11000_2.length co75) : Value).ownBlock) (.slice Ao80 tz41.length co80) tz41) ∧ Aside0 (Kd.R k24 24 w' w.heap.size (fun k_ => some k_ ≠ ((.slice Ao76 xz11001_2.length co76) : Value).ownBlock) (.slice Ao83 tz44.length co83) tz44) ∧ Aside0 (w'.heap[gbz10]? = some (.cells #[(.slice Ao75 xz11000_2.length co75), (.slice Ao76 xz11001_2.length co76)] 30 (0, 0))) ∧ Aside0 (w'.heap[gbz48]? = some (.cells #[(.slice Ao80 tz41.length co80), (.slice Ao83 tz44.length co83)] 30 (0, 0))) ∧ Aside0 (Below w.heap.size w w'))
  case atStart => exact ⟨(0), (by first | rfl | (simp; done) | (simp [*]; done)), H', ⟨Nat.le_refl _⟩, ⟨by (with_reducible repeat first | apply ra | apply rn | apply rd); exact HO_10.out⟩, ⟨by (with_reducible repeat first | apply ra | apply rn | apply rd); exact HO_z11000.out⟩, ⟨by (with_reducible repeat first | apply ra | apply rn | apply rd); exact HO_z11001.out⟩, ⟨by (with_reducible repeat first | apply ra | apply rn | apply rd); exact HO_z49000.out⟩, ⟨by (with_reducible repeat first | apply ra | apply rn | apply rd); exact HO_z49001.out⟩, ⟨by (with_reducible repeat (first | refine blk_drewN ?_ _ | refine blk_drew ?_ | refine blk_alloc ?_ _)); exact BKz10.out⟩, ⟨by (with_reducible repeat (first | refine blk_drewN ?_ _ | refine blk_drew ?_ | refine blk_alloc ?_ _)); exact BKz48.out⟩, ⟨by repeat first | (with_reducible first | exact HB.out | apply ba | apply bn | apply bd | refine bs (by assumption) ?_) | exact HB.out⟩⟩
  clear H'
  try clear c2
  try clear p2
  try clear c3
  try clear c4
  try clear p4
  try clear q4
  try clear hx4
  try clear c5
  try clear q5
  try clear c6
  try clear p6
  try clear q6
  try clear hx6
  try clear hf6
  try clear c8
  try clear c9
  try clear c25
  try clear c29
  try clear c29b0
  try clear c30
  try clear p40
  try clear q40
  try clear hx40
  try clear c47
  try clear c47b0
  try clear c47b1
  try clear c49
  try clear c52
  try clear c53
  try clear c53b0
  try clear c54
  try clear c54b0
  try clear q55
  try clear c56
  try clear c57
  try clear c60
  try clear c60b0
  try clear c61
  try clear c61b0
  try clear p62
  try clear q62
  try clear hx62
  try clear hf62
  try clear c63
  try clear p64
  try clear c81
  try clear c84
  try clear c84b0
  try clear c84b1
  try clear c85
  try clear c85b0
  try clear c85b1
  try clear c86
  try clear c86b0
  try clear c86b1
  try clear c86b2
  try clear c87
  try clear c89
  try clear c91
  try clear hcz50_0
  try clear hcz50_1
  try clear hcz58_0
  try clear hcz58_1
  try clear hcz59_0
  try clear hcz59_1
  try clear hcz64_0
  try clear hcz64_1
  try clear hcz65_0
  try clear hcz65_1
  try clear hcz72_0
  try clear hcz72_1
  try clear hcz82_0
  try clear hcz82_1
  try clear hcz88_0
  try clear hcz88_1
  try clear hcz90_0
  try clear hcz90_1
  try clear hfz50_0
  try clear hfz50_1
  try clear hfz58_0
  try clear hfz58_1
  try clear hfz59_0
  try clear hfz59_1
  try clear hfz64_0
  try clear hfz64_1
  try clear hfz65_0
  try clear hfz65_1
  try clear hfz72_0
  try clear hfz72_1
  try clear hfz82_0
  try clear hfz82_1
  try clear hfz88_0
  try clear hfz88_1
  try clear hfz90_0
  try clear hfz90_1
  try clear hxz34_0
  try clear hxz34_1
  try clear hxz34_2
  try clear hxz35_0
  try clear hxz35_1
  try clear hxz35_2
  try clear hxz36_0
  try clear hxz36_1
  try clear hxz36_2
  try clear hx62_0
  try clear p2
  try clear p4
  try clear p40
  try clear pz34
  try clear pz35
  try clear pz36
  try clear p6
  try clear p62
  try clear p64
  try clear q4
  try clear q40
  try clear qz34
  try clear qz35
  try clear qz36
  try clear q5
  try clear q55
  try clear q6
  try clear q62
  obtain ⟨x17_4, rfl, HA, HK4, HO_10, HO_z11000, HO_z11001, HO_z49000, HO_z49001, BKz10, BKz48, HB⟩ := hrel
  cases gk with
  | zero => exact absurd HA.out (by simp [columbariumlaw14_DiskLast.l2])
  | succ k4 => ?_
  have H := HA.out
  clear HA
  simp only [columbariumlaw14_DiskLast.l2] at H
  by_cases c92 : x17_4 < ji7
  rotate_left
  ·rw [if_neg c92] at H
   have c92b0 : decide (x17_4 < ji7) = false := decide_eq_false c92
   clear c92
   obtain rfl := Option.some.inj H
   go_wp2
   go_ret
   exact ⟨by first | rfl | (simp [errW_none, errW_some] <;> rfl) | (simp only [← hji7]; first | rfl | (simp [errW_none, errW_some] <;> rfl)) | (simp [*, errW_none, errW_some] <;> rfl), by repeat first | (with_reducible first | exact HB.out | apply ba | apply bn | apply bd | refine bs (by assumption) ?_) | exact HB.out⟩
  rw [if_pos c92] at H
  have c92b0 : decide (x17_4 < ji7) = true := decide_eq_true c92
  clear c92
  replace H := ob_ H
  obtain ⟨⟨tz49, tz50⟩, A930, H⟩ := H
  replace H : ((disk_Read.f tz41 tz44 x17_4).bind fun btz51 => (if tz50 = 0 then (if btz51.2 = 0 then (if 0 ≤ x17_4 then (if x17_4 < (x10_2.length : Int) then (if tz49.toList = (rdOf ByteArray.empty x10_2 x17_4).toList then (if btz51.1.toList = (rdOf ByteArray.empty x10_2 x17_4).toList then (if x17_4 < (tz41.length : Int) then (if (rdOf ByteArray.empty tz41 x17_4).toList = (rdOf ByteArray.empty x10_2 x17_4).toList then (columbariumlaw14_DiskLast.l2 k4 tz1 ji7 x10_2 (wrap64 (x17_4 + 1)) xz11000_2 xz11001_2 tz41 tz44) else (none)) else (none)) else (none)) else (none)) else (none)) else (none)) else (none)) else (none))) = some r := H
  have A93 := Aside0.mk A930
  clear A930
  replace H := ob_ H
  obtain ⟨⟨tz51, tz52⟩, A940, H⟩ := H
  replace H : (if tz50 = 0 then (if tz52 = 0 then (if 0 ≤ x17_4 then (if x17_4 < (x10_2.length : Int) then (if tz49.toList = (rdOf ByteArray.empty x10_2 x17_4).toList then (if tz51.toList = (rdOf ByteArray.empty x10_2 x17_4).toList then (if x17_4 < (tz41.length : Int) then (if (rdOf ByteArray.empty tz41 x17_4).toList = (rdOf ByteArray.empty x10_2 x17_4).toList then (columbariumlaw14_DiskLast.l2 k4 tz1 ji7 x10_2 (wrap64 (x17_4 + 1)) xz11000_2 xz11001_2 tz41 tz44) else (none)) else (none)) else (none)) else (none)) else (none)) else (none)) else (none)) else (none)) = some r := H
  have A94 := Aside0.mk A940
  clear A940
  by_cases c95 : tz50 = 0
  rotate_left
  ·rw [if_neg c95] at H
   exact absurd H (by simp)
  rw [if_pos c95] at H
  have c95b0 : (tz50 == 0) = true := beq_iff_eq.mpr c95
  have c95b1 : (tz50 != 0) = false := bne_eq_false_iff_eq.mpr c95
  clear c95
  by_cases c96 : tz52 = 0
  rotate_left
  ·rw [if_neg c96] at H
   exact absurd H (by simp)
  rw [if_pos c96] at H
  have c96b0 : (tz52 == 0) = true := beq_iff_eq.mpr c96
  have c96b1 : (tz52 != 0) = false := bne_eq_false_iff_eq.mpr c96
  clear c96
  by_cases c97 : 0 ≤ x17_4
  rotate_left
  ·rw [if_neg c97] at H
   exact absurd H (by simp)
  rw [if_pos c97] at H
  have c97b0 : decide (0 ≤ x17_4) = true := decide_eq_true c97
  clear c97
  by_cases c98 : x17_4 < (x10_2.length : Int)
  rotate_left
  ·rw [if_neg c98] at H
   exact absurd H (by simp)
  rw [if_pos c98] at H
  have c98b0 : decide (x17_4 < (x10_2.length : Int)) = true := decide_eq_true c98
  clear c98
  by_cases c99 : tz49.toList = (rdOf ByteArray.empty x10_2 x17_4).toList
  rotate_left
  ·rw [if_neg c99] at H
   exact absurd H (by simp)
  rw [if_pos c99] at H
  have c99b0 : (tz49.toList == (rdOf ByteArray.empty x10_2 x17_4).toList) = true := beq_iff_eq.mpr c99
  have c99b1 : (tz49.toList != (rdOf ByteArray.empty x10_2 x17_4).toList) = false := bne_eq_false_iff_eq.mpr c99
  clear c99
  by_cases c100 : tz51.toList = (rdOf ByteArray.empty x10_2 x17_4).toList
  rotate_left
  ·rw [if_neg c100] at H
   exact absurd H (by simp)
  rw [if_pos c100] at H
  have c100b0 : (tz51.toList == (rdOf ByteArray.empty x10_2 x17_4).toList) = true := beq_iff_eq.mpr c100
  have c100b1 : (tz51.toList != (rdOf ByteArray.empty x10_2 x17_4).toList) = false := bne_eq_false_iff_eq.mpr c100
  clear c100
  by_cases c101 : x17_4 < (tz41.length : Int)
  rotate_left
  ·rw [if_neg c101] at H
   exact absurd H (by simp)
  rw [if_pos c101] at H
  have c101b0 : decide (x17_4 < (tz41.length : Int)) = true := decide_eq_true c101
  clear c101
  by_cases c102 : (rdOf ByteArray.empty tz41 x17_4).toList = (rdOf ByteArray.empty x10_2 x17_4).toList
  rotate_left
  ·rw [if_neg c102] at H
   exact absurd H (by simp)
  rw [if_pos c102] at H
  have c102b0 : ((rdOf ByteArray.empty tz41 x17_4).toList == (rdOf ByteArray.empty x10_2 x17_4).toList) = true := beq_iff_eq.mpr c102
  have c102b1 : ((rdOf ByteArray.empty tz41 x17_4).toList != (rdOf ByteArray.empty x10_2 x17_4).toList) = false := bne_eq_false_iff_eq.mpr c102
  clear c102
  have H' := am H
  clear H
  have hnb103 := NBz10_z48.out
  have hnc103 := NBz48_z10.out
  obtain ⟨hcz104_0, hcz104_1⟩ := bc2 BKz10
  obtain ⟨hfz104_0, hfz104_1⟩ := bf2 BKz10
  try go_wp2_with (first | ((with_reducible refine gate_callee (f := 22) rfl ?_); refine goesL_ (some 122) rfl rfl Try.func22 (by kernel_rfl) rfl #[.agg #[.slice Ao75 xz11000_2.length co75, .slice Ao76 xz11001_2.length co76], .int .i64 x17_4] rfl (by (try simp only [List.map_toArray, List.map_cons, List.map_nil]) <;> rfl) ?_; (with_reducible refine (disk_Read.calls _ _ xz11000_2 _ _ xz11001_2 x17_4 tz49 tz50 _ ?side1 ?side2 ?side3 ?side4 A93.out).mono ?_); (case side1 => repeat (first | exact (Kd.R_reads' HO_z11000.out).2.2 | (with_reducible refine Kd.C_alloc ?_ _) | (with_reducible refine Kd.C_drewN ?_ _) | (with_reducible refine Kd.C_drew ?_))); (case side2 => exact (Kd.R_reads' HO_z11000.out).2.1); (case side3 => repeat (first | exact (Kd.R_reads' HO_z11001.out).2.2 | (with_reducible refine Kd.C_alloc ?_ _) | (with_reducible refine Kd.C_drewN ?_ _) | (with_reducible refine Kd.C_drew ?_))); (case side4 => exact (Kd.R_reads' HO_z11001.out).2.1); rintro e w105 ⟨rfl, hb⟩; refine ⟨_, rfl, ?_⟩; have n0_ := am (Kd.R_below (pr HO_10) hb); have n1_ := am (Kd.R_below (pr HO_z11000) hb); have n2_ := am (Kd.R_below (pr HO_z11001) hb); have n3_ := am (Kd.R_below (pr HO_z49000) hb); have n4_ := am (Kd.R_below (pr HO_z49001) hb); have n5_ := am (blk_below (pk BKz10) hb); have n6_ := am (blk_below (pk BKz48) hb); have n7_ := am (below_step (by repeat first | (with_reducible first | exact HB.out | apply ba | apply bn | apply bd | refine bs (by assumption) ?_) | exact HB.out) hb); clear HO_10; clear HO_z11000; clear HO_z11001; clear HO_z49000; clear HO_z49001; clear BKz10; clear BKz48; clear HB; have HO_10 := n0_; have HO_z11000 := n1_; have HO_z11001 := n2_; have HO_z49000 := n3_; have HO_z49001 := n4_; have BKz10 := n5_; have BKz48 := n6_; have HB := n7_; clear n0_ n1_ n2_ n3_ n4_ n5_ n6_ n7_; obtain ⟨hcz106_0, hcz106_1⟩ := bc2 BKz48; obtain ⟨hfz106_0, hfz106_1⟩ := bf2 BKz48) | ((with_reducible refine gate_callee (f := 22) rfl ?_); refine goesL_ (some 128) rfl rfl Try.func22 (by kernel_rfl) rfl #[.agg #[.slice Ao80 tz41.length co80, .slice Ao83 tz44.length co83], .int .i64 x17_4] rfl (by (try simp only [List.map_toArray, List.map_cons, List.map_nil]) <;> rfl) ?_; (with_reducible refine (disk_Read.calls _ _ tz41 _ _ tz44 x17_4 tz51 tz52 _ ?side1 ?side2 ?side3 ?side4 A94.out).mono ?_); (case side1 => repeat (first | exact (Kd.R_reads' HO_z49000.out).2.2 | (with_reducible refine Kd.C_alloc ?_ _) | (with_reducible refine Kd.C_drewN ?_ _) | (with_reducible refine Kd.C_drew ?_))); (case side2 => exact (Kd.R_reads' HO_z49000.out).2.1); (case side3 => repeat (first | exact (Kd.R_reads' HO_z49001.out).2.2 | (with_reducible refine Kd.C_alloc ?_ _) | (with_reducible refine Kd.C_drewN ?_ _) | (with_reducible refine Kd.C_drew ?_))); (case side4 => exact (Kd.R_reads' HO_z49001.out).2.1); rintro e w107 ⟨rfl, hb⟩; refine ⟨_, rfl, ?_⟩; have n0_ := am (Kd.R_below (pr HO_10) hb); have n1_ := am (Kd.R_below (pr HO_z11000) hb); have n2_ := am (Kd.R_below (pr HO_z11001) hb); have n3_ := am (Kd.R_below (pr HO_z49000) hb); have n4_ := am (Kd.R_below (pr HO_z49001) hb); have n5_ := am (blk_below (pk BKz10) hb); have n6_ := am (blk_below (pk BKz48) hb); have n7_ := am (below_step (by repeat first | (with_reducible first | exact HB.out | apply ba | apply bn | apply bd | refine bs (by assumption) ?_) | exact HB.out) hb); clear HO_10; clear HO_z11000; clear HO_z11001; clear HO_z49000; clear HO_z49001; clear BKz10; clear BKz48; clear HB; have HO_10 := n0_; have HO_z11000 := n1_; have HO_z11001 := n2_; have HO_z49000 := n3_; have HO_z49001 := n4_; have BKz10 := n5_; have BKz48 := n6_; have HB := n7_; clear n0_ n1_ n2_ n3_ n4_ n5_ n6_ n7_; (try clear hi)))
  have n0_ := am (Kd.R_drew HO_10.out)
  have n1_ := am (Kd.R_drew HO_z11000.out)
  have n2_ := am (Kd.R_drew HO_z11001.out)
  have n3_ := am (Kd.R_drew HO_z49000.out)
  have n4_ := am (Kd.R_drew HO_z49001.out)
  have n5_ := am (blk_drew BKz10.out)
  have n6_ := am (blk_drew BKz48.out)
  have n7_ := am (below_drew1 HB.out)
  clear HO_10 HO_z11000 HO_z11001 HO_z49000 HO_z49001 BKz10 BKz48 HB; have HO_10 := n0_; have HO_z11000 := n1_; have HO_z11001 := n2_; have HO_z49000 := n3_; have HO_z49001 := n4_; have BKz10 := n5_; have BKz48 := n6_; have HB := n7_; clear n0_ n1_ n2_ n3_ n4_ n5_ n6_ n7_
  obtain ⟨Ao109, co109, eo109⟩ := Kd.R_slice HO_10.out
  (first | subst eo109 | (injection eo109 with f1_ f2_ f3_; have f4_ := f1_.symm; have f5_ := f3_.symm; clear f1_ f2_ f3_; subst f4_; subst f5_))
  have pz53 : 0 ≤ (x17_4 : Int) := of_decide_eq_true (by first | (with_reducible assumption) | assumption)
  have qz53 : x17_4 < (x10_2.length : Int) := of_decide_eq_true (by first | (with_reducible assumption) | assumption)
  obtain ⟨adz53, ez53, hxz53_0⟩ := Kd.at_string (Kd.R_reads' HO_10.out).2.2 x17_4 pz53 qz53
  cases ez53
  replace pz53 := eq_true pz53
  replace qz53 := eq_true qz53
  have pz54 : 0 ≤ (x17_4 : Int) := of_decide_eq_true (by first | (with_reducible assumption) | assumption)
  have qz54 : x17_4 < (x10_2.length : Int) := of_decide_eq_true (by first | (with_reducible assumption) | assumption)
  obtain ⟨adz54, ez54, hxz54_0⟩ := Kd.at_string (Kd.R_reads' HO_10.out).2.2 x17_4 pz54 qz54
  obtain rfl : adz53 = adz54 := (by injection ez54)
  replace pz54 := eq_true pz54
  replace qz54 := eq_true qz54
  have pz55 : 0 ≤ (x17_4 : Int) := of_decide_eq_true (by first | (with_reducible assumption) | assumption)
  have qz55 : x17_4 < (tz41.length : Int) := of_decide_eq_true (by first | (with_reducible assumption) | assumption)
  obtain ⟨adz55, ez55, hxz55_0⟩ := Kd.at_string (Kd.R_reads' HO_z49000.out).2.2 x17_4 pz55 qz55
  cases ez55
  replace pz55 := eq_true pz55
  replace qz55 := eq_true qz55
  have pz56 : 0 ≤ (x17_4 : Int) := of_decide_eq_true (by first | (with_reducible assumption) | assumption)
  have qz56 : x17_4 < (x10_2.length : Int) := of_decide_eq_true (by first | (with_reducible assumption) | assumption)
  obtain ⟨adz56, ez56, hxz56_0⟩ := Kd.at_string (Kd.R_reads' HO_10.out).2.2 x17_4 pz56 qz56
  obtain rfl : adz53 = adz56 := (by injection ez56)
  replace pz56 := eq_true pz56
  replace qz56 := eq_true qz56
  refine start_ (n := 34) (S := fun w' => w'.cell? ⟨gbz48, 0, none⟩ = some (.slice (some adz55) tz41.length co80) ∧ w'.cell? ⟨gbz48, 1, none⟩ = some (.slice Ao83 tz44.length co83) ∧ w'.cell? (adz53.add (x17_4).toNat) = some (.string (rdOf ByteArray.empty x10_2 x17_4)) ∧ w'.cell? (adz53.add (x17_4).toNat) = some (.string (rdOf ByteArray.empty x10_2 x17_4)) ∧ w'.cell? (adz55.add (x17_4).toNat) = some (.string (rdOf ByteArray.empty tz41 x17_4)) ∧ w'.cell? (adz53.add (x17_4).toNat) = some (.string (rdOf ByteArray.empty x10_2 x17_4))) (ds := []) #[false, false, false, false, false, false, false, false, false, false, false, false, false, false, false, false, false, false, false, false, false, false, false, false, false, false, false, false, false, false, false, false, false, false] (by kernel_rfl) rfl rfl ⟨(blk_cell BKz48.out 0).trans rfl, (blk_cell BKz48.out 1).trans rfl, hxz53_0, hxz54_0, hxz55_0, hxz56_0⟩ (fun hHeld => ?_); refine with_tabW columbariumlaw14_DiskLast.tab27 columbariumlaw14_DiskLast.bits27 (fun HT_ HW_ => ?_)
  generalize w107.drew = w108 at HO_10 HO_z11000 HO_z11001 HO_z49000 HO_z49001 BKz10 BKz48 HB hxz53_0 hxz54_0 hxz55_0 hxz56_0 hHeld ⊢
  refine pu_ 0 (some 131) HT_ rfl rfl (.inl ⟨by rfl, by intro w'; go_simp; with_reducible rfl⟩) (by simp only [Act.put, sa_, s0_, s1_, i64_w, i32_w]; rfl) ?_
  refine pu_ 1 (some 132) HT_ rfl rfl (.inl ⟨by rfl, by intro w'; go_simp; with_reducible rfl⟩) (by simp only [Act.put, sa_, s0_, s1_, i64_w, i32_w]; rfl) ?_
  refine pu_ 2 (some 133) HT_ rfl rfl (.inl ⟨by rfl, by intro w'; go_simp; with_reducible rfl⟩) (by simp only [Act.put, sa_, s0_, s1_, i64_w, i32_w]; rfl) ?_
  refine pu_ 3 (some 134) HT_ rfl rfl (.inl ⟨by rfl, by intro w'; go_simp; with_reducible rfl⟩) (by simp only [Act.put, sa_, s0_, s1_, i64_w, i32_w]; rfl) ?_
  refine pu_ 4 (some 135) HT_ rfl rfl (.inl ⟨by rfl, by intro w'; go_simp; with_reducible rfl⟩) (by simp only [Act.put, sa_, s0_, s1_, i64_w, i32_w]; rfl) ?_
  refine pu_ 5 (some 136) HT_ rfl rfl (.inl ⟨by rfl, by intro w'; go_simp; with_reducible rfl⟩) (by simp only [Act.put, sa_, s0_, s1_, i64_w, i32_w]; rfl) ?_
  refine pu_ 6 (some 137) HT_ rfl rfl (.inl ⟨by rfl, by intro w'; go_simp; with_reducible rfl⟩) (by simp only [Act.put, sa_, s0_, s1_, i64_w, i32_w]; rfl) ?_
  refine pu_ 7 (some 138) HT_ rfl rfl (.inl ⟨by rfl, by intro w'; go_simp; with_reducible rfl⟩) (by simp only [Act.put, sa_, s0_, s1_, i64_w, i32_w]; rfl) ?_
  refine pu_ 8 (some 139) HT_ rfl rfl (.inl ⟨by rfl, by intro w'; go_simp; with_reducible rfl⟩) (by simp only [Act.put, sa_, s0_, s1_, i64_w, i32_w]; rfl) ?_
  refine pu_ 9 (some 140) HT_ rfl rfl (.inl ⟨by rfl, by intro w'; go_simp; with_reducible rfl⟩) (by simp only [Act.put, sa_, s0_, s1_, i64_w, i32_w]; rfl) ?_
  refine pu_ 10 (some 141) HT_ rfl rfl (.inl ⟨by rfl, by intro w'; go_simp; with_reducible rfl⟩) (by simp only [Act.put, sa_, s0_, s1_, i64_w, i32_w]; rfl) ?_
  refine tk_ 11 (some 142) HT_ HW_ rfl rfl (.inl ⟨by rfl, by rintro w' ⟨s0, s1, s2, s3, s4, s5⟩; go_simp; with_reducible rfl⟩) hHeld (by simp only [Act.put, sa_, s0_, s1_, i64_w, i32_w]; rfl) ?_
  refine pu_ 12 (some 143) HT_ rfl rfl (.inl ⟨by rfl, by intro w'; go_simp; with_reducible rfl⟩) (by simp only [Act.put, sa_, s0_, s1_, i64_w, i32_w]; rfl) ?_
  refine pu_ 13 (some 144) HT_ rfl rfl (.inl ⟨by rfl, by intro w'; go_simp; with_reducible rfl⟩) (by simp only [Act.put, sa_, s0_, s1_, i64_w, i32_w]; rfl) ?_
  refine pu_ 14 (some 145) HT_ rfl rfl (.inl ⟨by rfl, by intro w'; go_simp; with_reducible rfl⟩) (by simp only [Act.put, sa_, s0_, s1_, i64_w, i32_w]; rfl) ?_
  refine pu_ 15 (some 146) HT_ rfl rfl (.inl ⟨by rfl, by intro w'; go_simp; with_reducible rfl⟩) (by simp only [Act.put, sa_, s0_, s1_, i64_w, i32_w]; rfl) ?_
  refine pu_ 16 (some 147) HT_ rfl rfl (.inl ⟨by rfl, by intro w'; go_simp; with_reducible rfl⟩) (by simp only [Act.put, sa_, s0_, s1_, i64_w, i32_w]; rfl) ?_
  refine pu_ 17 (some 148) HT_ rfl rfl (.inl ⟨by rfl, by intro w'; go_simp; with_reducible rfl⟩) (by simp only [Act.put, sa_, s0_, s1_, i64_w, i32_w]; rfl) ?_
  refine pu_ 18 (some 149) HT_ rfl rfl (.inl ⟨by rfl, by intro w'; go_simp; with_reducible rfl⟩) (by simp only [Act.put, sa_, s0_, s1_, i64_w, i32_w]; rfl) ?_
  refine tk_ 19 (some 150) HT_ HW_ rfl rfl (.inl ⟨by rfl, by rintro w' ⟨s0, s1, s2, s3, s4, s5⟩; go_simp; with_reducible rfl⟩) hHeld (by simp only [Act.put, sa_, s0_, s1_, i64_w, i32_w]; rfl) ?_
  refine pu_ 20 (some 151) HT_ rfl rfl (.inl ⟨by rfl, by intro w'; go_simp; with_reducible rfl⟩) (by simp only [Act.put, sa_, s0_, s1_, i64_w, i32_w]; rfl) ?_
  refine pu_ 21 (some 152) HT_ rfl rfl (.inl ⟨by rfl, by intro w'; go_simp; with_reducible rfl⟩) (by simp only [Act.put, sa_, s0_, s1_, i64_w, i32_w]; rfl) ?_
  refine pu_ 22 (some 153) HT_ rfl rfl (.inl ⟨by rfl, by intro w'; go_simp; with_reducible rfl⟩) (by simp only [Act.put, sa_, s0_, s1_, i64_w, i32_w]; rfl) ?_
  refine pu_ 23 (some 154) HT_ rfl rfl (.inl ⟨by rfl, by intro w'; go_simp; with_reducible rfl⟩) (by simp only [Act.put, sa_, s0_, s1_, i64_w, i32_w]; rfl) ?_
  refine pu_ 25 (some 156) HT_ rfl rfl (.inl ⟨by rfl, by intro w'; go_simp; with_reducible rfl⟩) (by simp only [Act.put, sa_, s0_, s1_, i64_w, i32_w]; rfl) ?_
  refine pu_ 28 (some 159) HT_ rfl rfl (.inl ⟨by rfl, by intro w'; go_simp; with_reducible rfl⟩) (by simp only [Act.put, sa_, s0_, s1_, i64_w, i32_w]; rfl) ?_
  refine pu_ 29 (some 160) HT_ rfl rfl (.inl ⟨by rfl, by intro w'; go_simp; with_reducible rfl⟩) (by simp only [Act.put, sa_, s0_, s1_, i64_w, i32_w]; rfl) ?_
  refine pu_ 30 (some 161) HT_ rfl rfl (.inl ⟨by rfl, by intro w'; go_simp; with_reducible rfl⟩) (by simp only [Act.put, sa_, s0_, s1_, i64_w, i32_w]; rfl) ?_
  refine tk_ 24 (some 155) HT_ HW_ rfl rfl (.inl ⟨by rfl, by rintro w' ⟨s0, s1, s2, s3, s4, s5⟩; go_simp; with_reducible rfl⟩) hHeld (by simp only [Act.put, sa_, s0_, s1_, i64_w, i32_w]; rfl) ?_
  refine pu_ 26 (some 157) HT_ rfl rfl (.inl ⟨by rfl, by intro w'; go_simp; with_reducible rfl⟩) (by simp only [Act.put, sa_, s0_, s1_, i64_w, i32_w]; rfl) ?_
  refine tk_ 27 (some 158) HT_ HW_ rfl rfl (.inl ⟨by rfl, by rintro w' ⟨s0, s1, s2, s3, s4, s5⟩; go_simp; with_reducible rfl⟩) hHeld (by simp only [Act.put, sa_, s0_, s1_, i64_w, i32_w]; rfl) ?_
  refine tk_ 31 (some 162) HT_ HW_ rfl rfl (.inl ⟨by rfl, by rintro w' ⟨s0, s1, s2, s3, s4, s5⟩; go_simp; with_reducible rfl⟩) hHeld (by simp only [Act.put, sa_, s0_, s1_, i64_w, i32_w]; rfl) ?_
  refine pu_ 32 (some 163) HT_ rfl rfl (.inl ⟨by rfl, by intro w'; go_simp; with_reducible rfl⟩) (by simp only [Act.put, sa_, s0_, s1_, i64_w, i32_w]; rfl) ?_
  refine pu_ 33 (some 164) HT_ rfl rfl (.inl ⟨by rfl, by intro w'; go_simp; with_reducible rfl⟩) (by simp only [Act.put, sa_, s0_, s1_, i64_w, i32_w]; rfl) ?_
  refine done_ (done_of HT_.out (by kernel_rfl)) ?_
  try go_wp2
  go_roundg k4
  case measure => have := HK1.out; have := HK2.out; have := HJ69.out; have := HK4.out; omega
  case rel => exact ⟨(wrap64 (x17_4 + 1)), (by first | rfl | (simp; done) | (simp [*]; done)), H', ⟨by have := HK1.out; have := HK2.out; have := HJ69.out; have := HK4.out; omega⟩, ⟨by (with_reducible repeat first | apply ra | apply rn | apply rd); exact HO_10.out⟩, ⟨by (with_reducible repeat first | apply ra | apply rn | apply rd); exact HO_z11000.out⟩, ⟨by (with_reducible repeat first | apply ra | apply rn | apply rd); exact HO_z11001.out⟩, ⟨by (with_reducible repeat first | apply ra | apply rn | apply rd); exact HO_z49000.out⟩, ⟨by (with_reducible repeat first | apply ra | apply rn | apply rd); exact HO_z49001.out⟩, ⟨by (with_reducible repeat (first | refine blk_drewN ?_ _ | refine blk_drew ?_ | refine blk_alloc ?_ _)); exact BKz10.out⟩, ⟨by (with_reducible repeat (first | refine blk_drewN ?_ _ | refine blk_drew ?_ | refine blk_alloc ?_ _)); exact BKz48.out⟩, ⟨by repeat first | (with_reducible first | exact HB.out | apply ba | apply bn | apply bd | refine bs (by assumption) ?_) | exact HB.out⟩⟩
 rw [if_pos c29] at H
 have c29b0 : decide (x12_2 < (tz11.length : Int)) = true := decide_eq_true c29
 clear c29
 by_cases c30 : 0 ≤ x12_2
 rotate_left
 ·rw [if_neg c30] at H
  exact absurd H (by simp)
 rw [if_pos c30] at H
 have c30b0 : decide (0 ≤ x12_2) = true := decide_eq_true c30
 clear c30
 obtain ⟨yz22, hyz22⟩ : ∃ y_ : List (S24), y_ = (([(⟨(rd_T24 tz11 x12_2).f0, (rd_T24 tz11 x12_2).f1, (rd_T24 tz11 x12_2).f2⟩ : S24)] : List (S24))) := ⟨_, rfl⟩
 replace H : ((disk_Do.f xz11000_2 xz11001_2 yz22).bind fun btz25 => (if btz25.2.2 = 0 then ((disk_Right.f btz25.1 btz25.2.1).bind fun tz33 => (columbariumlaw14_DiskLast.j2 k2 tz1 ji7 tz9 tz11 x10_2 x12_2 (!tz33) btz25.1 btz25.2.1)) else (columbariumlaw14_DiskLast.j2 k2 tz1 ji7 tz9 tz11 x10_2 x12_2 true btz25.1 btz25.2.1))) = some r := by first | (rw [hyz22]; with_reducible exact H) | (have H2_ := (Option.bind_some _ _).symm.trans H; rw [hyz22]; with_reducible exact H2_) | (have H2_ := (Option.bind_some _ _).symm.trans H; with_reducible exact H2_) | with_reducible exact H | (rw [hyz22]; exact H) | exact H
 have Nyz22 := am hyz22
 clear hyz22
 replace H := ob_ H
 obtain ⟨⟨tz25, tz28, tz31⟩, A310, H⟩ := H
 replace H : (if tz31 = 0 then ((disk_Right.f tz25 tz28).bind fun tz33 => (columbariumlaw14_DiskLast.j2 k2 tz1 ji7 tz9 tz11 x10_2 x12_2 (!tz33) tz25 tz28)) else (columbariumlaw14_DiskLast.j2 k2 tz1 ji7 tz9 tz11 x10_2 x12_2 true tz25 tz28)) = some r := H
 have A31 := Aside0.mk A310
 clear A310
 have HC32 := am H
 clear H
 obtain ⟨Ao33, co33, eo33⟩ := Kd.R_slice HO_9.out
 subst eo33
 obtain ⟨Ao34, co34, eo34⟩ := Kd.R_slice HO_z11000.out
 subst eo34
 obtain ⟨Ao35, co35, eo35⟩ := Kd.R_slice HO_z11001.out
 subst eo35
 try go_wp2
 have n0_ := am (Kd.R_drew HO_9.out)
 have n1_ := am (Kd.R_drew HO_10.out)
 have n2_ := am (Kd.R_drew HO_z11000.out)
 have n3_ := am (Kd.R_drew HO_z11001.out)
 have n4_ := am (blk_drew BKz10.out)
 have n5_ := am (below_drew1 HB.out)
 clear HO_9 HO_10 HO_z11000 HO_z11001 BKz10 HB; have HO_9 := n0_; have HO_10 := n1_; have HO_z11000 := n2_; have HO_z11001 := n3_; have BKz10 := n4_; have HB := n5_; clear n0_ n1_ n2_ n3_ n4_ n5_
 have pz21 : 0 ≤ (x12_2 : Int) := of_decide_eq_true (by first | (with_reducible assumption) | assumption)
 have qz21 : x12_2 < (tz11.length : Int) := of_decide_eq_true (by first | (with_reducible assumption) | assumption)
 obtain ⟨adz21, ez21, hxz21_0, hxz21_1, hxz21_2⟩ := at_T24 (Kd.R_reads' HO_9.out).2.2 x12_2 pz21 qz21
 cases ez21
 replace pz21 := eq_true pz21
 replace qz21 := eq_true qz21
 refine start_ (n := 13) (S := fun w' => w'.cell? ⟨gbz10, 0, none⟩ = some (.slice Ao34 xz11000_2.length co34) ∧ w'.cell? ⟨gbz10, 1, none⟩ = some (.slice Ao35 xz11001_2.length co35) ∧ w'.cell? (adz21.add ((x12_2).toNat * 3)) = some (.bool ((rd_T24 tz11 x12_2).f0)) ∧ w'.cell? ⟨(adz21.add ((x12_2).toNat * 3)).block, (adz21.add ((x12_2).toNat * 3)).off + 1, none⟩ = some (.int .i64 ((rd_T24 tz11 x12_2).f1)) ∧ w'.cell? ⟨(adz21.add ((x12_2).toNat * 3)).block, (adz21.add ((x12_2).toNat * 3)).off + 2, none⟩ = some (.string ((rd_T24 tz11 x12_2).f2))) (ds := []) #[false, false, false, false, false, false, false, false, false, false, false, false, false] (by kernel_rfl) rfl rfl ⟨(blk_cell BKz10.out 0).trans rfl, (blk_cell BKz10.out 1).trans rfl, hxz21_0, hxz21_1, hxz21_2⟩ (fun hHeld => ?_); refine with_tabW columbariumlaw14_DiskLast.tab13 columbariumlaw14_DiskLast.bits13 (fun HT_ HW_ => ?_)
 generalize wr.drew = w36 at HO_9 HO_10 HO_z11000 HO_z11001 BKz10 HB hxz21_0 hxz21_1 hxz21_2 hHeld ⊢
 refine pu_ 1 (some 54) HT_ rfl rfl (.inl ⟨by rfl, by intro w'; go_simp; with_reducible rfl⟩) (by simp only [Act.put, sa_, s0_, s1_, i64_w, i32_w]; rfl) ?_
 refine pu_ 2 (some 55) HT_ rfl rfl (.inl ⟨by rfl, by intro w'; go_simp; with_reducible rfl⟩) (by simp only [Act.put, sa_, s0_, s1_, i64_w, i32_w]; rfl) ?_
 refine pu_ 3 (some 56) HT_ rfl rfl (.inl ⟨by rfl, by intro w'; go_simp; with_reducible rfl⟩) (by simp only [Act.put, sa_, s0_, s1_, i64_w, i32_w]; rfl) ?_
 refine tk_ 0 (some 53) HT_ HW_ rfl rfl (.inl ⟨by rfl, by rintro w' ⟨s0, s1, s2, s3, s4⟩; go_simp; with_reducible rfl⟩) hHeld (by simp only [Act.put, sa_, s0_, s1_, i64_w, i32_w]; rfl) ?_
 refine tk_ 4 (some 57) HT_ HW_ rfl rfl (.inl ⟨by rfl, by rintro w' ⟨s0, s1, s2, s3, s4⟩; go_simp; with_reducible rfl⟩) hHeld (by simp only [Act.put, sa_, s0_, s1_, i64_w, i32_w]; rfl) ?_
 refine join_ (σ := Value × Value × Value × Nat) 2 #[true, true, true, true, true, true, true, true, true, true, true, false, false] (fun s_ => [(58, s_.1), (59, .tuple #[.agg #[s_.2.1, s_.2.2.1], .int .i64 tz31]), (13, .pointer (some ⟨s_.2.2.2, 0, none⟩)), (52, .tuple #[.agg #[s_.2.1, s_.2.2.1], .int .i64 tz31]), (60, .agg #[s_.2.1, s_.2.2.1]), (61, .int .i64 tz31)]) (fun s_ w' => (w'.cell? ⟨gbz10, 0, none⟩ = some (.slice Ao34 xz11000_2.length co34) ∧ w'.cell? ⟨gbz10, 1, none⟩ = some (.slice Ao35 xz11001_2.length co35) ∧ w'.cell? (adz21.add ((x12_2).toNat * 3)) = some (.bool ((rd_T24 tz11 x12_2).f0)) ∧ w'.cell? ⟨(adz21.add ((x12_2).toNat * 3)).block, (adz21.add ((x12_2).toNat * 3)).off + 1, none⟩ = some (.int .i64 ((rd_T24 tz11 x12_2).f1)) ∧ w'.cell? ⟨(adz21.add ((x12_2).toNat * 3)).block, (adz21.add ((x12_2).toNat * 3)).off + 2, none⟩ = some (.string ((rd_T24 tz11 x12_2).f2))) ∧ (Kd.R k24 24 w' w.heap.size (fun k_ => some k_ ≠ (s_.2.2.1 : Value).ownBlock ∧ some k_ ≠ (.slice Ao35 xz11001_2.length co35 : Value).ownBlock ∧ some k_ ≠ (.slice (some adz21) tz11.length co33 : Value).ownBlock) s_.1 yz22) ∧ (Kd.R Kd.string 9 w' w.heap.size (fun k_ => some k_ ≠ (vz15 : Value).ownBlock ∧ some k_ ≠ (.slice Ao34 xz11000_2.length co34 : Value).ownBlock) s_.2.1 tz25) ∧ (Kd.R k24 24 w' w.heap.size (fun k_ => some k_ ≠ (s_.1 : Value).ownBlock ∧ some k_ ≠ (.slice Ao35 xz11001_2.length co35 : Value).ownBlock ∧ some k_ ≠ (.slice (some adz21) tz11.length co33 : Value).ownBlock) s_.2.2.1 tz28) ∧ (Kd.R Kd.string 9 w' w.heap.size (fun k_ => some k_ ≠ (s_.2.1 : Value).ownBlock ∧ some k_ ≠ (.slice Ao34 xz11000_2.length co34 : Value).ownBlock) vz15 x10_2) ∧ (Kd.R Kd.string 9 w' w.heap.size (fun k_ => some k_ ≠ (s_.2.1 : Value).ownBlock ∧ some k_ ≠ (vz15 : Value).ownBlock) (.slice Ao34 xz11000_2.length co34) xz11000_2) ∧ (Kd.R k24 24 w' w.heap.size (fun k_ => some k_ ≠ (s_.1 : Value).ownBlock ∧ some k_ ≠ (s_.2.2.1 : Value).ownBlock ∧ some k_ ≠ (.slice (some adz21) tz11.length co33 : Value).ownBlock) (.slice Ao35 xz11001_2.length co35) xz11001_2) ∧ (Kd.R k24 24 w' w.heap.size (fun k_ => some k_ ≠ (s_.1 : Value).ownBlock ∧ some k_ ≠ (s_.2.2.1 : Value).ownBlock ∧ some k_ ≠ (.slice Ao35 xz11001_2.length co35 : Value).ownBlock) (.slice (some adz21) tz11.length co33) tz11) ∧ (w'.heap[gbz10]? = some (.cells #[.slice Ao34 xz11000_2.length co34, .slice Ao35 xz11001_2.length co35] 30 (0, 0))) ∧ (w'.heap[s_.2.2.2]? = some (.cells #[.slice none 0 0, .slice none 0 0] 30 (0, 0))) ∧ (w.heap.size ≤ s_.2.2.2) ∧ (w.heap.size ≤ s_.2.2.2) ∧ (gbz10 ≠ s_.2.2.2) ∧ (s_.2.2.2 ≠ gbz10) ∧ (Below w.heap.size w w')) ?_ ?_
 rotate_left
 ·intro hCont
  refine two_ (i := 5) (j := 10) (Ni := some 58) (Nj := some 13) #[true, true, true, true, true, true, false, false, false, false, false, false, false] #[true, true, true, true, true, false, false, false, false, false, true, false, false] rfl rfl rfl rfl (two_of HT_.out (by kernel_rfl)) (by decide) (by decide) (fun K hK => ?_) (fun K hK => ?_)
  rotate_left
  ·skip
   refine box_step ?hg (N := 13) ?hd (cs := #[.slice none 0 0, .slice none 0 0]) (t := 30) ?hr ?_; (case hd => rfl); (case hg => rfl); (case hr => first | (go_simp; done) | (go_simp; rfl))
   intro gbz32 hg w37 hbox hb
   have HS2_ := (hb.cell (World.block_lt_of_cell? _ _ (hHeld.2.2.1))).trans (hHeld.2.2.1)
   have HS3_ := (hb.cell (World.block_lt_of_cell? _ _ (hHeld.2.2.2.1))).trans (hHeld.2.2.2.1)
   have HS4_ := (hb.cell (World.block_lt_of_cell? _ _ (hHeld.2.2.2.2))).trans (hHeld.2.2.2.2)
   have n0_ := am (Kd.R_below (pr HO_9) hb)
   have n1_ := am (Kd.R_below (pr HO_10) hb)
   have n2_ := am (Kd.R_below (pr HO_z11000) hb)
   have n3_ := am (Kd.R_below (pr HO_z11001) hb)
   have n4_ := am (blk_below (pk BKz10) hb)
   have n5_ := am (below_step (by repeat first | (with_reducible first | exact HB.out | apply ba | apply bn | apply bd | refine bs (by assumption) ?_) | exact HB.out) hb)
   have n6_ := am (hbox)
   have n7_ := ge_ hg (by repeat first | (with_reducible first | exact HB.out | apply ba | apply bn | apply bd | refine bs (by assumption) ?_) | exact HB.out)
   have n8_ := ge_ hg (by repeat first | (with_reducible first | exact HB.out | apply ba | apply bn | apply bd | refine bs (by assumption) ?_) | exact HB.out)
   have n9_ := nl_ hg BKz10
   have n10_ := ng_ hg BKz10
   clear HO_9 HO_10 HO_z11000 HO_z11001 BKz10 HB; have HO_9 := n0_; have HO_10 := n1_; have HO_z11000 := n2_; have HO_z11001 := n3_; have BKz10 := n4_; have HB := n5_; have BKz32 := n6_; have GWz32 := n7_; have GEz32 := n8_; have NBz10_z32 := n9_; have NBz32_z10 := n10_; clear n0_ n1_ n2_ n3_ n4_ n5_ n6_ n7_ n8_ n9_ n10_; clear hb hbox hg
   refine hK.out _ _ ⟨(blk_cell BKz10.out 0).trans rfl, (blk_cell BKz10.out 1).trans rfl, HS2_, HS3_, HS4_⟩ (fun hHeld => ?_)
   clear hK K
   refine norm_ (by show Act.put _ (some 13) _ = _; simp only [Act.put, sa_, s0_, s1_, i64_w, i32_w]; rfl) ?_
   refine on_ 5 (some 58) HT_ rfl rfl (fun K hK => ?_)
   refine Kd.R_lit_step k24 _ 24 ?hg (N := 58) ?hd (xs := ([(⟨(rd_T24 tz11 x12_2).f0, (rd_T24 tz11 x12_2).f1, (rd_T24 tz11 x12_2).f2⟩ : S24)] : List (S24))) (inner := [.bool ((rd_T24 tz11 x12_2).f0), .int .i64 ((rd_T24 tz11 x12_2).f1), .string ((rd_T24 tz11 x12_2).f2)]) (ok := fun _ => True) (okp := fun _ => True) ?hr ?hp (fun _ hk => hk) trivial (Below.refl _ _) (Nat.le_refl _) (by simp) ?_; (case hd => rfl); (case hg => rfl); (case hr => first | (go_simp; done) | (go_simp; rfl)); (case hp => exact (Reps.c3 (show Kd.M k24 _ _ _ (⟨(rd_T24 tz11 x12_2).f0, (rd_T24 tz11 x12_2).f1, (rd_T24 tz11 x12_2).f2⟩ : S24) [.bool ((rd_T24 tz11 x12_2).f0), .int .i64 ((rd_T24 tz11 x12_2).f1), .string ((rd_T24 tz11 x12_2).f2)] from (k24_mkM _ _ _ (⟨(rd_T24 tz11 x12_2).f0, (rd_T24 tz11 x12_2).f1, (rd_T24 tz11 x12_2).f2⟩ : S24) )) (Reps.none _ _)))
   intro vz23 w38 ho39 hb hg_ hnew_
   have HS2_ := (hb.cell (World.block_lt_of_cell? _ _ (hHeld.2.2.1))).trans (hHeld.2.2.1)
   have HS3_ := (hb.cell (World.block_lt_of_cell? _ _ (hHeld.2.2.2.1))).trans (hHeld.2.2.2.1)
   have HS4_ := (hb.cell (World.block_lt_of_cell? _ _ (hHeld.2.2.2.2))).trans (hHeld.2.2.2.2)
   clear hg_ hnew_
   (first | rw [← Nyz22.out] at ho39 | (simp only [Int.reduceToNat] at ho39; rw [← Nyz22.out] at ho39))
   have n0_ := am (Kd.R_elder' (pr HO_9) (Kd.R_base ho39) hb)
   have n1_ := am (Kd.R_below (pr HO_10) hb)
   have n2_ := am (Kd.R_below (pr HO_z11000) hb)
   have n3_ := am (Kd.R_elder' (pr HO_z11001) (Kd.R_base ho39) hb)
   have n4_ := am (Kd.R_lower (Kd.R_new' (Kd.R_new' ho39 (Kd.R_lt (pr HO_9))) (Kd.R_lt (pr HO_z11001))) (below_size (by repeat first | (with_reducible first | exact HB.out | apply ba | apply bn | apply bd | refine bs (by assumption) ?_) | exact HB.out)))
   have n5_ := am (blk_below (pk BKz10) hb)
   have n6_ := am (blk_below (pk BKz32) hb)
   have n7_ := am (below_step (by repeat first | (with_reducible first | exact HB.out | apply ba | apply bn | apply bd | refine bs (by assumption) ?_) | exact HB.out) hb)
   clear HO_9 HO_10 HO_z11000 HO_z11001 BKz10 BKz32 HB; have HO_9 := n0_; have HO_10 := n1_; have HO_z11000 := n2_; have HO_z11001 := n3_; have HOz24 := n4_; have BKz10 := n5_; have BKz32 := n6_; have HB := n7_; clear n0_ n1_ n2_ n3_ n4_ n5_ n6_ n7_; clear hb ho39
   obtain ⟨Ao40, co40, eo40⟩ := Kd.R_slice HOz24.out
   (first | subst eo40 | (injection eo40 with f1_ f2_ f3_; have f4_ := f1_.symm; have f5_ := f3_.symm; clear f1_ f2_ f3_; subst f4_; subst f5_))
   refine hK.out _ _ ⟨(blk_cell BKz10.out 0).trans rfl, (blk_cell BKz10.out 1).trans rfl, HS2_, HS3_, HS4_⟩ (fun hHeld => ?_)
   clear hK K
   refine norm_ (by show Act.put _ (some 58) _ = _; simp only [Act.put, sa_, s0_, s1_, i64_w, i32_w]; rfl) ?_
   refine on_ 6 (some 59) HT_ rfl rfl (fun K hK => ?_)
   refine goes_ Try.func25 (by kernel_rfl) rfl #[.agg #[.slice Ao34 xz11000_2.length co34, .slice Ao35 xz11001_2.length co35], .slice Ao40 yz22.length co40] (by rfl) rfl rfl (by (try simp only [List.map_toArray, List.map_cons, List.map_nil]) <;> rfl) ?_
   with_reducible refine (disk_Do.calls _ _ xz11000_2 _ _ xz11001_2 _ _ yz22 tz25 tz28 tz31 _ ?side1 ?side2 ?side3 ?side4 ?side5 ?side6 A31.out).mono ?_
   (case side1 => repeat (first | exact (Kd.R_reads' HO_z11000.out).2.2 | (with_reducible refine Kd.C_alloc ?_ _) | (with_reducible refine Kd.C_drewN ?_ _) | (with_reducible refine Kd.C_drew ?_)))
   (case side2 => exact (Kd.R_reads' HO_z11000.out).2.1)
   (case side3 => repeat (first | exact (Kd.R_reads' HO_z11001.out).2.2 | (with_reducible refine Kd.C_alloc ?_ _) | (with_reducible refine Kd.C_drewN ?_ _) | (with_reducible refine Kd.C_drew ?_)))
   (case side4 => exact (Kd.R_reads' HO_z11001.out).2.1)
   (case side5 => repeat (first | exact (Kd.R_reads' HOz24.out).2.2 | (with_reducible refine Kd.C_alloc ?_ _) | (with_reducible refine Kd.C_drewN ?_ _) | (with_reducible refine Kd.C_drew ?_)))
   (case side6 => exact (Kd.R_reads' HOz24.out).2.1)
   rintro e w41 ⟨vz26, vz29, rfl, ho0, ho1, hb⟩
   have HS2_ := (hb.cell (World.block_lt_of_cell? _ _ (hHeld.2.2.1))).trans (hHeld.2.2.1)
   have HS3_ := (hb.cell (World.block_lt_of_cell? _ _ (hHeld.2.2.2.1))).trans (hHeld.2.2.2.1)
   have HS4_ := (hb.cell (World.block_lt_of_cell? _ _ (hHeld.2.2.2.2))).trans (hHeld.2.2.2.2)
   refine ⟨_, rfl, ?_⟩
   have n0_ := am (Kd.R_elder' (pr HO_9) (Kd.R_base ho1) hb)
   have n1_ := am (Kd.R_elder' (pr HO_10) (Kd.R_base ho0) hb)
   have n2_ := am (Kd.R_elder' (pr HO_z11000) (Kd.R_base ho0) hb)
   have n3_ := am (Kd.R_elder' (pr HO_z11001) (Kd.R_base ho1) hb)
   have n4_ := am (Kd.R_elder' (pr HOz24) (Kd.R_base ho1) hb)
   have n5_ := am (Kd.R_lower (Kd.R_new' (Kd.R_new' ho0 (Kd.R_lt (pr HO_10))) (Kd.R_lt (pr HO_z11000))) (below_size (by repeat first | (with_reducible first | exact HB.out | apply ba | apply bn | apply bd | refine bs (by assumption) ?_) | exact HB.out)))
   have n6_ := am (Kd.R_lower (Kd.R_new' (Kd.R_new' (Kd.R_new' ho1 (Kd.R_lt (pr HO_9))) (Kd.R_lt (pr HO_z11001))) (Kd.R_lt (pr HOz24))) (below_size (by repeat first | (with_reducible first | exact HB.out | apply ba | apply bn | apply bd | refine bs (by assumption) ?_) | exact HB.out)))
   have n7_ := am (blk_below (pk BKz10) hb)
   have n8_ := am (blk_below (pk BKz32) hb)
   have n9_ := am (below_step (by repeat first | (with_reducible first | exact HB.out | apply ba | apply bn | apply bd | refine bs (by assumption) ?_) | exact HB.out) hb)
   clear HO_9 HO_10 HO_z11000 HO_z11001 HOz24 BKz10 BKz32 HB; have HO_9 := n0_; have HO_10 := n1_; have HO_z11000 := n2_; have HO_z11001 := n3_; have HOz24 := n4_; have HOz27 := n5_; have HOz30 := n6_; have BKz10 := n7_; have BKz32 := n8_; have HB := n9_; clear n0_ n1_ n2_ n3_ n4_ n5_ n6_ n7_ n8_ n9_; refine hK.out _ _ ⟨(blk_cell BKz10.out 0).trans rfl, (blk_cell BKz10.out 1).trans rfl, HS2_, HS3_, HS4_⟩ (fun hHeld => ?_)
   clear hK K
   refine norm_ (by show Act.put _ (some 59) _ = _; simp only [Act.put, sa_, s0_, s1_, i64_w, i32_w]; rfl) ?_
   refine pu_ 7 (some 52) HT_ rfl rfl (.inl ⟨by rfl, by intro w'; go_simp; with_reducible rfl⟩) (by simp only [Act.put, sa_, s0_, s1_, i64_w, i32_w]; rfl) ?_
   refine pu_ 8 (some 60) HT_ rfl rfl (.inl ⟨by rfl, by intro w'; go_simp; with_reducible rfl⟩) (by simp only [Act.put, sa_, s0_, s1_, i64_w, i32_w]; rfl) ?_
   refine pu_ 9 (some 61) HT_ rfl rfl (.inl ⟨by rfl, by intro w'; go_simp; with_reducible rfl⟩) (by simp only [Act.put, sa_, s0_, s1_, i64_w, i32_w]; rfl) ?_
   exact norm_ (by simp only [putAll, Act.put, List.setIfInBounds_toArray, List.set_cons_zero, List.set_cons_succ]) (hCont (.slice Ao40 yz22.length co40, vz26, vz29, gbz32) _ ⟨hHeld, (pm HOz24 (fun _ hk => ⟨hk.2, ⟨hk.1.2, hk.1.1.2⟩⟩)), (pm HOz27 (fun _ hk => ⟨hk.1.2, hk.2⟩)), (pm HOz30 (fun _ hk => ⟨hk.2, ⟨hk.1.2, hk.1.1.2⟩⟩)), (pm HO_10 (fun _ hk => ⟨hk.2, hk.1⟩)), (pm HO_z11000 (fun _ hk => ⟨hk.2, hk.1⟩)), (pm HO_z11001 (fun _ hk => ⟨hk.1.2, ⟨hk.2, hk.1.1⟩⟩)), (pm HO_9 (fun _ hk => ⟨hk.1.2, ⟨hk.2, hk.1.1⟩⟩)), (pk BKz10), (pk BKz32), GWz32.out, GEz32.out, NBz10_z32.out, NBz32_z10.out, (by repeat first | (with_reducible first | exact HB.out | apply ba | apply bn | apply bd | refine bs (by assumption) ?_) | exact HB.out)⟩)
  skip
  refine Kd.R_lit_step k24 _ 24 ?hg (N := 58) ?hd (xs := ([(⟨(rd_T24 tz11 x12_2).f0, (rd_T24 tz11 x12_2).f1, (rd_T24 tz11 x12_2).f2⟩ : S24)] : List (S24))) (inner := [.bool ((rd_T24 tz11 x12_2).f0), .int .i64 ((rd_T24 tz11 x12_2).f1), .string ((rd_T24 tz11 x12_2).f2)]) (ok := fun _ => True) (okp := fun _ => True) ?hr ?hp (fun _ hk => hk) trivial (Below.refl _ _) (Nat.le_refl _) (by simp) ?_; (case hd => rfl); (case hg => rfl); (case hr => first | (go_simp; done) | (go_simp; rfl)); (case hp => exact (Reps.c3 (show Kd.M k24 _ _ _ (⟨(rd_T24 tz11 x12_2).f0, (rd_T24 tz11 x12_2).f1, (rd_T24 tz11 x12_2).f2⟩ : S24) [.bool ((rd_T24 tz11 x12_2).f0), .int .i64 ((rd_T24 tz11 x12_2).f1), .string ((rd_T24 tz11 x12_2).f2)] from (k24_mkM _ _ _ (⟨(rd_T24 tz11 x12_2).f0, (rd_T24 tz11 x12_2).f1, (rd_T24 tz11 x12_2).f2⟩ : S24) )) (Reps.none _ _)))
  intro vz23 w37 ho38 hb hg_ hnew_
  have HS2_ := (hb.cell (World.block_lt_of_cell? _ _ (hHeld.2.2.1))).trans (hHeld.2.2.1)
  have HS3_ := (hb.cell (World.block_lt_of_cell? _ _ (hHeld.2.2.2.1))).trans (hHeld.2.2.2.1)
  have HS4_ := (hb.cell (World.block_lt_of_cell? _ _ (hHeld.2.2.2.2))).trans (hHeld.2.2.2.2)
  clear hg_ hnew_
  (first | rw [← Nyz22.out] at ho38 | (simp only [Int.reduceToNat] at ho38; rw [← Nyz22.out] at ho38))
  have n0_ := am (Kd.R_elder' (pr HO_9) (Kd.R_base ho38) hb)
  have n1_ := am (Kd.R_below (pr HO_10) hb)
  have n2_ := am (Kd.R_below (pr HO_z11000) hb)
  have n3_ := am (Kd.R_elder' (pr HO_z11001) (Kd.R_base ho38) hb)
  have n4_ := am (Kd.R_lower (Kd.R_new' (Kd.R_new' ho38 (Kd.R_lt (pr HO_9))) (Kd.R_lt (pr HO_z11001))) (below_size (by repeat first | (with_reducible first | exact HB.out | apply ba | apply bn | apply bd | refine bs (by assumption) ?_) | exact HB.out)))
  have n5_ := am (blk_below (pk BKz10) hb)
  have n6_ := am (below_step (by repeat first | (with_reducible first | exact HB.out | apply ba | apply bn | apply bd | refine bs (by assumption) ?_) | exact HB.out) hb)
  clear HO_9 HO_10 HO_z11000 HO_z11001 BKz10 HB; have HO_9 := n0_; have HO_10 := n1_; have HO_z11000 := n2_; have HO_z11001 := n3_; have HOz24 := n4_; have BKz10 := n5_; have HB := n6_; clear n0_ n1_ n2_ n3_ n4_ n5_ n6_; clear hb ho38
  obtain ⟨Ao39, co39, eo39⟩ := Kd.R_slice HOz24.out
  (first | subst eo39 | (injection eo39 with f1_ f2_ f3_; have f4_ := f1_.symm; have f5_ := f3_.symm; clear f1_ f2_ f3_; subst f4_; subst f5_))
  refine hK.out _ _ ⟨(blk_cell BKz10.out 0).trans rfl, (blk_cell BKz10.out 1).trans rfl, HS2_, HS3_, HS4_⟩ (fun hHeld => ?_)
  clear hK K
  refine norm_ (by show Act.put _ (some 58) _ = _; simp only [Act.put, sa_, s0_, s1_, i64_w, i32_w]; rfl) ?_
  refine two_ (i := 6) (j := 10) (Ni := some 59) (Nj := some 13) #[true, true, true, true, true, true, true, false, false, false, false, false, false] #[true, true, true, true, true, true, false, false, false, false, true, false, false] rfl rfl rfl rfl (two_of HT_.out (by kernel_rfl)) (by decide) (by decide) (fun K hK => ?_) (fun K hK => ?_)
  ·skip
   refine goes_ Try.func25 (by kernel_rfl) rfl #[.agg #[.slice Ao34 xz11000_2.length co34, .slice Ao35 xz11001_2.length co35], .slice Ao39 yz22.length co39] (by rfl) rfl rfl (by (try simp only [List.map_toArray, List.map_cons, List.map_nil]) <;> rfl) ?_
   with_reducible refine (disk_Do.calls _ _ xz11000_2 _ _ xz11001_2 _ _ yz22 tz25 tz28 tz31 _ ?side1 ?side2 ?side3 ?side4 ?side5 ?side6 A31.out).mono ?_
   (case side1 => repeat (first | exact (Kd.R_reads' HO_z11000.out).2.2 | (with_reducible refine Kd.C_alloc ?_ _) | (with_reducible refine Kd.C_drewN ?_ _) | (with_reducible refine Kd.C_drew ?_)))
   (case side2 => exact (Kd.R_reads' HO_z11000.out).2.1)
   (case side3 => repeat (first | exact (Kd.R_reads' HO_z11001.out).2.2 | (with_reducible refine Kd.C_alloc ?_ _) | (with_reducible refine Kd.C_drewN ?_ _) | (with_reducible refine Kd.C_drew ?_)))
   (case side4 => exact (Kd.R_reads' HO_z11001.out).2.1)
   (case side5 => repeat (first | exact (Kd.R_reads' HOz24.out).2.2 | (with_reducible refine Kd.C_alloc ?_ _) | (with_reducible refine Kd.C_drewN ?_ _) | (with_reducible refine Kd.C_drew ?_)))
   (case side6 => exact (Kd.R_reads' HOz24.out).2.1)
   rintro e w40 ⟨vz26, vz29, rfl, ho0, ho1, hb⟩
   have HS2_ := (hb.cell (World.block_lt_of_cell? _ _ (hHeld.2.2.1))).trans (hHeld.2.2.1)
   have HS3_ := (hb.cell (World.block_lt_of_cell? _ _ (hHeld.2.2.2.1))).trans (hHeld.2.2.2.1)
   have HS4_ := (hb.cell (World.block_lt_of_cell? _ _ (hHeld.2.2.2.2))).trans (hHeld.2.2.2.2)
   refine ⟨_, rfl, ?_⟩
   have n0_ := am (Kd.R_elder' (pr HO_9) (Kd.R_base ho1) hb)
   have n1_ := am (Kd.R_elder' (pr HO_10) (Kd.R_base ho0) hb)
   have n2_ := am (Kd.R_elder' (pr HO_z11000) (Kd.R_base ho0) hb)
   have n3_ := am (Kd.R_elder' (pr HO_z11001) (Kd.R_base ho1) hb)
   have n4_ := am (Kd.R_elder' (pr HOz24) (Kd.R_base ho1) hb)
   have n5_ := am (Kd.R_lower (Kd.R_new' (Kd.R_new' ho0 (Kd.R_lt (pr HO_10))) (Kd.R_lt (pr HO_z11000))) (below_size (by repeat first | (with_reducible first | exact HB.out | apply ba | apply bn | apply bd | refine bs (by assumption) ?_) | exact HB.out)))
   have n6_ := am (Kd.R_lower (Kd.R_new' (Kd.R_new' (Kd.R_new' ho1 (Kd.R_lt (pr HO_9))) (Kd.R_lt (pr HO_z11001))) (Kd.R_lt (pr HOz24))) (below_size (by repeat first | (with_reducible first | exact HB.out | apply ba | apply bn | apply bd | refine bs (by assumption) ?_) | exact HB.out)))
   have n7_ := am (blk_below (pk BKz10) hb)
   have n8_ := am (below_step (by repeat first | (with_reducible first | exact HB.out | apply ba | apply bn | apply bd | refine bs (by assumption) ?_) | exact HB.out) hb)
   clear HO_9 HO_10 HO_z11000 HO_z11001 HOz24 BKz10 HB; have HO_9 := n0_; have HO_10 := n1_; have HO_z11000 := n2_; have HO_z11001 := n3_; have HOz24 := n4_; have HOz27 := n5_; have HOz30 := n6_; have BKz10 := n7_; have HB := n8_; clear n0_ n1_ n2_ n3_ n4_ n5_ n6_ n7_ n8_; refine hK.out _ _ ⟨(blk_cell BKz10.out 0).trans rfl, (blk_cell BKz10.out 1).trans rfl, HS2_, HS3_, HS4_⟩ (fun hHeld => ?_)
   clear hK K
   refine norm_ (by show Act.put _ (some 59) _ = _; simp only [Act.put, sa_, s0_, s1_, i64_w, i32_w]; rfl) ?_
   refine pu_ 7 (some 52) HT_ rfl rfl (.inl ⟨by rfl, by intro w'; go_simp; with_reducible rfl⟩) (by simp only [Act.put, sa_, s0_, s1_, i64_w, i32_w]; rfl) ?_
   refine pu_ 8 (some 60) HT_ rfl rfl (.inl ⟨by rfl, by intro w'; go_simp; with_reducible rfl⟩) (by simp only [Act.put, sa_, s0_, s1_, i64_w, i32_w]; rfl) ?_
   refine pu_ 9 (some 61) HT_ rfl rfl (.inl ⟨by rfl, by intro w'; go_simp; with_reducible rfl⟩) (by simp only [Act.put, sa_, s0_, s1_, i64_w, i32_w]; rfl) ?_
   refine on_ 10 (some 13) HT_ rfl rfl (fun K hK => ?_)
   refine box_step ?hg (N := 13) ?hd (cs := #[.slice none 0 0, .slice none 0 0]) (t := 30) ?hr ?_; (case hd => rfl); (case hg => rfl); (case hr => first | (go_simp; done) | (go_simp; rfl))
   intro gbz32 hg w41 hbox hb
   have HS2_ := (hb.cell (World.block_lt_of_cell? _ _ (hHeld.2.2.1))).trans (hHeld.2.2.1)
   have HS3_ := (hb.cell (World.block_lt_of_cell? _ _ (hHeld.2.2.2.1))).trans (hHeld.2.2.2.1)
   have HS4_ := (hb.cell (World.block_lt_of_cell? _ _ (hHeld.2.2.2.2))).trans (hHeld.2.2.2.2)
   have n0_ := am (Kd.R_below (pr HO_9) hb)
   have n1_ := am (Kd.R_below (pr HO_10) hb)
   have n2_ := am (Kd.R_below (pr HO_z11000) hb)
   have n3_ := am (Kd.R_below (pr HO_z11001) hb)
   have n4_ := am (Kd.R_below (pr HOz24) hb)
   have n5_ := am (Kd.R_below (pr HOz27) hb)
   have n6_ := am (Kd.R_below (pr HOz30) hb)
   have n7_ := am (blk_below (pk BKz10) hb)
   have n8_ := am (below_step (by repeat first | (with_reducible first | exact HB.out | apply ba | apply bn | apply bd | refine bs (by assumption) ?_) | exact HB.out) hb)
   have n9_ := am (hbox)
   have n10_ := ge_ hg (by repeat first | (with_reducible first | exact HB.out | apply ba | apply bn | apply bd | refine bs (by assumption) ?_) | exact HB.out)
   have n11_ := ge_ hg (by repeat first | (with_reducible first | exact HB.out | apply ba | apply bn | apply bd | refine bs (by assumption) ?_) | exact HB.out)
   have n12_ := nl_ hg BKz10
   have n13_ := ng_ hg BKz10
   clear HO_9 HO_10 HO_z11000 HO_z11001 HOz24 HOz27 HOz30 BKz10 HB; have HO_9 := n0_; have HO_10 := n1_; have HO_z11000 := n2_; have HO_z11001 := n3_; have HOz24 := n4_; have HOz27 := n5_; have HOz30 := n6_; have BKz10 := n7_; have HB := n8_; have BKz32 := n9_; have GWz32 := n10_; have GEz32 := n11_; have NBz10_z32 := n12_; have NBz32_z10 := n13_; clear n0_ n1_ n2_ n3_ n4_ n5_ n6_ n7_ n8_ n9_ n10_ n11_ n12_ n13_; clear hb hbox hg
   refine hK.out _ _ ⟨(blk_cell BKz10.out 0).trans rfl, (blk_cell BKz10.out 1).trans rfl, HS2_, HS3_, HS4_⟩ (fun hHeld => ?_)
   clear hK K
   refine norm_ (by show Act.put _ (some 13) _ = _; simp only [Act.put, sa_, s0_, s1_, i64_w, i32_w]; rfl) ?_
   exact norm_ (by simp only [putAll, Act.put, List.setIfInBounds_toArray, List.set_cons_zero, List.set_cons_succ]) (hCont (.slice Ao39 yz22.length co39, vz26, vz29, gbz32) _ ⟨hHeld, (pm HOz24 (fun _ hk => ⟨hk.2, ⟨hk.1.2, hk.1.1.2⟩⟩)), (pm HOz27 (fun _ hk => ⟨hk.1.2, hk.2⟩)), (pm HOz30 (fun _ hk => ⟨hk.2, ⟨hk.1.2, hk.1.1.2⟩⟩)), (pm HO_10 (fun _ hk => ⟨hk.2, hk.1⟩)), (pm HO_z11000 (fun _ hk => ⟨hk.2, hk.1⟩)), (pm HO_z11001 (fun _ hk => ⟨hk.1.2, ⟨hk.2, hk.1.1⟩⟩)), (pm HO_9 (fun _ hk => ⟨hk.1.2, ⟨hk.2, hk.1.1⟩⟩)), (pk BKz10), (pk BKz32), GWz32.out, GEz32.out, NBz10_z32.out, NBz32_z10.out, (by repeat first | (with_reducible first | exact HB.out | apply ba | apply bn | apply bd | refine bs (by assumption) ?_) | exact HB.out)⟩)
  skip
  refine box_step ?hg (N := 13) ?hd (cs := #[.slice none 0 0, .slice none 0 0]) (t := 30) ?hr ?_; (case hd => rfl); (case hg => rfl); (case hr => first | (go_simp; done) | (go_simp; rfl))
  intro gbz32 hg w39 hbox hb
  have HS2_ := (hb.cell (World.block_lt_of_cell? _ _ (hHeld.2.2.1))).trans (hHeld.2.2.1)
  have HS3_ := (hb.cell (World.block_lt_of_cell? _ _ (hHeld.2.2.2.1))).trans (hHeld.2.2.2.1)
  have HS4_ := (hb.cell (World.block_lt_of_cell? _ _ (hHeld.2.2.2.2))).trans (hHeld.2.2.2.2)
  have n0_ := am (Kd.R_below (pr HO_9) hb)
  have n1_ := am (Kd.R_below (pr HO_10) hb)
  have n2_ := am (Kd.R_below (pr HO_z11000) hb)
  have n3_ := am (Kd.R_below (pr HO_z11001) hb)
  have n4_ := am (Kd.R_below (pr HOz24) hb)
  have n5_ := am (blk_below (pk BKz10) hb)
  have n6_ := am (below_step (by repeat first | (with_reducible first | exact HB.out | apply ba | apply bn | apply bd | refine bs (by assumption) ?_) | exact HB.out) hb)
  have n7_ := am (hbox)
  have n8_ := ge_ hg (by repeat first | (with_reducible first | exact HB.out | apply ba | apply bn | apply bd | refine bs (by assumption) ?_) | exact HB.out)
  have n9_ := ge_ hg (by repeat first | (with_reducible first | exact HB.out | apply ba | apply bn | apply bd | refine bs (by assumption) ?_) | exact HB.out)
  have n10_ := nl_ hg BKz10
  have n11_ := ng_ hg BKz10
  clear HO_9 HO_10 HO_z11000 HO_z11001 HOz24 BKz10 HB; have HO_9 := n0_; have HO_10 := n1_; have HO_z11000 := n2_; have HO_z11001 := n3_; have HOz24 := n4_; have BKz10 := n5_; have HB := n6_; have BKz32 := n7_; have GWz32 := n8_; have GEz32 := n9_; have NBz10_z32 := n10_; have NBz32_z10 := n11_; clear n0_ n1_ n2_ n3_ n4_ n5_ n6_ n7_ n8_ n9_ n10_ n11_; clear hb hbox hg
  obtain ⟨Ao40, co40, eo40⟩ := Kd.R_slice HOz24.out
  (first | subst eo40 | (injection eo40 with f1_ f2_ f3_; have f4_ := f1_.symm; have f5_ := f3_.symm; clear f1_ f2_ f3_; subst f4_; subst f5_))
  refine hK.out _ _ ⟨(blk_cell BKz10.out 0).trans rfl, (blk_cell BKz10.out 1).trans rfl, HS2_, HS3_, HS4_⟩ (fun hHeld => ?_)
  clear hK K
  refine norm_ (by show Act.put _ (some 13) _ = _; simp only [Act.put, sa_, s0_, s1_, i64_w, i32_w]; rfl) ?_
  refine on_ 6 (some 59) HT_ rfl rfl (fun K hK => ?_)
  refine goes_ Try.func25 (by kernel_rfl) rfl #[.agg #[.slice Ao34 xz11000_2.length co34, .slice Ao35 xz11001_2.length co35], .slice Ao40 yz22.length co40] (by rfl) rfl rfl (by (try simp only [List.map_toArray, List.map_cons, List.map_nil]) <;> rfl) ?_
  with_reducible refine (disk_Do.calls _ _ xz11000_2 _ _ xz11001_2 _ _ yz22 tz25 tz28 tz31 _ ?side1 ?side2 ?side3 ?side4 ?side5 ?side6 A31.out).mono ?_
  (case side1 => repeat (first | exact (Kd.R_reads' HO_z11000.out).2.2 | (with_reducible refine Kd.C_alloc ?_ _) | (with_reducible refine Kd.C_drewN ?_ _) | (with_reducible refine Kd.C_drew ?_)))
  (case side2 => exact (Kd.R_reads' HO_z11000.out).2.1)
  (case side3 => repeat (first | exact (Kd.R_reads' HO_z11001.out).2.2 | (with_reducible refine Kd.C_alloc ?_ _) | (with_reducible refine Kd.C_drewN ?_ _) | (with_reducible refine Kd.C_drew ?_)))
  (case side4 => exact (Kd.R_reads' HO_z11001.out).2.1)
  (case side5 => repeat (first | exact (Kd.R_reads' HOz24.out).2.2 | (with_reducible refine Kd.C_alloc ?_ _) | (with_reducible refine Kd.C_drewN ?_ _) | (with_reducible refine Kd.C_drew ?_)))
  (case side6 => exact (Kd.R_reads' HOz24.out).2.1)
  rintro e w41 ⟨vz26, vz29, rfl, ho0, ho1, hb⟩
  have HS2_ := (hb.cell (World.block_lt_of_cell? _ _ (hHeld.2.2.1))).trans (hHeld.2.2.1)
  have HS3_ := (hb.cell (World.block_lt_of_cell? _ _ (hHeld.2.2.2.1))).trans (hHeld.2.2.2.1)
  have HS4_ := (hb.cell (World.block_lt_of_cell? _ _ (hHeld.2.2.2.2))).trans (hHeld.2.2.2.2)
  refine ⟨_, rfl, ?_⟩
  have n0_ := am (Kd.R_elder' (pr HO_9) (Kd.R_base ho1) hb)
  have n1_ := am (Kd.R_elder' (pr HO_10) (Kd.R_base ho0) hb)
  have n2_ := am (Kd.R_elder' (pr HO_z11000) (Kd.R_base ho0) hb)
  have n3_ := am (Kd.R_elder' (pr HO_z11001) (Kd.R_base ho1) hb)
  have n4_ := am (Kd.R_elder' (pr HOz24) (Kd.R_base ho1) hb)
  have n5_ := am (Kd.R_lower (Kd.R_new' (Kd.R_new' ho0 (Kd.R_lt (pr HO_10))) (Kd.R_lt (pr HO_z11000))) (below_size (by repeat first | (with_reducible first | exact HB.out | apply ba | apply bn | apply bd | refine bs (by assumption) ?_) | exact HB.out)))
  have n6_ := am (Kd.R_lower (Kd.R_new' (Kd.R_new' (Kd.R_new' ho1 (Kd.R_lt (pr HO_9))) (Kd.R_lt (pr HO_z11001))) (Kd.R_lt (pr HOz24))) (below_size (by repeat first | (with_reducible first | exact HB.out | apply ba | apply bn | apply bd | refine bs (by assumption) ?_) | exact HB.out)))
  have n7_ := am (blk_below (pk BKz10) hb)
  have n8_ := am (blk_below (pk BKz32) hb)
  have n9_ := am (below_step (by repeat first | (with_reducible first | exact HB.out | apply ba | apply bn | apply bd | refine bs (by assumption) ?_) | exact HB.out) hb)
  clear HO_9 HO_10 HO_z11000 HO_z11001 HOz24 BKz10 BKz32 HB; have HO_9 := n0_; have HO_10 := n1_; have HO_z11000 := n2_; have HO_z11001 := n3_; have HOz24 := n4_; have HOz27 := n5_; have HOz30 := n6_; have BKz10 := n7_; have BKz32 := n8_; have HB := n9_; clear n0_ n1_ n2_ n3_ n4_ n5_ n6_ n7_ n8_ n9_; refine hK.out _ _ ⟨(blk_cell BKz10.out 0).trans rfl, (blk_cell BKz10.out 1).trans rfl, HS2_, HS3_, HS4_⟩ (fun hHeld => ?_)
  clear hK K
  refine norm_ (by show Act.put _ (some 59) _ = _; simp only [Act.put, sa_, s0_, s1_, i64_w, i32_w]; rfl) ?_
  refine pu_ 7 (some 52) HT_ rfl rfl (.inl ⟨by rfl, by intro w'; go_simp; with_reducible rfl⟩) (by simp only [Act.put, sa_, s0_, s1_, i64_w, i32_w]; rfl) ?_
  refine pu_ 8 (some 60) HT_ rfl rfl (.inl ⟨by rfl, by intro w'; go_simp; with_reducible rfl⟩) (by simp only [Act.put, sa_, s0_, s1_, i64_w, i32_w]; rfl) ?_
  refine pu_ 9 (some 61) HT_ rfl rfl (.inl ⟨by rfl, by intro w'; go_simp; with_reducible rfl⟩) (by simp only [Act.put, sa_, s0_, s1_, i64_w, i32_w]; rfl) ?_
  exact norm_ (by simp only [putAll, Act.put, List.setIfInBounds_toArray, List.set_cons_zero, List.set_cons_succ]) (hCont (.slice Ao40 yz22.length co40, vz26, vz29, gbz32) _ ⟨hHeld, (pm HOz24 (fun _ hk => ⟨hk.2, ⟨hk.1.2, hk.1.1.2⟩⟩)), (pm HOz27 (fun _ hk => ⟨hk.1.2, hk.2⟩)), (pm HOz30 (fun _ hk => ⟨hk.2, ⟨hk.1.2, hk.1.1.2⟩⟩)), (pm HO_10 (fun _ hk => ⟨hk.2, hk.1⟩)), (pm HO_z11000 (fun _ hk => ⟨hk.2, hk.1⟩)), (pm HO_z11001 (fun _ hk => ⟨hk.1.2, ⟨hk.2, hk.1.1⟩⟩)), (pm HO_9 (fun _ hk => ⟨hk.1.2, ⟨hk.2, hk.1.1⟩⟩)), (pk BKz10), (pk BKz32), GWz32.out, GEz32.out, NBz10_z32.out, NBz32_z10.out, (by repeat first | (with_reducible first | exact HB.out | apply ba | apply bn | apply bd | refine bs (by assumption) ?_) | exact HB.out)⟩)
 rintro ⟨vz23, vz26, vz29, gbz32⟩ w42 ⟨hS_, h0_, h1_, h2_, h3_, h4_, h5_, h6_, h7_, h8_, h9_, h10_, h11_, h12_, h13_⟩
 have n0_ : Aside0 (Kd.R k24 24 w42 w.heap.size (fun k_ => some k_ ≠ (vz29 : Value).ownBlock ∧ some k_ ≠ (.slice Ao35 xz11001_2.length co35 : Value).ownBlock ∧ some k_ ≠ (.slice (some adz21) tz11.length co33 : Value).ownBlock) vz23 yz22) := ⟨h0_⟩
 have n1_ : Aside0 (Kd.R Kd.string 9 w42 w.heap.size (fun k_ => some k_ ≠ (vz15 : Value).ownBlock ∧ some k_ ≠ (.slice Ao34 xz11000_2.length co34 : Value).ownBlock) vz26 tz25) := ⟨h1_⟩
 have n2_ : Aside0 (Kd.R k24 24 w42 w.heap.size (fun k_ => some k_ ≠ (vz23 : Value).ownBlock ∧ some k_ ≠ (.slice Ao35 xz11001_2.length co35 : Value).ownBlock ∧ some k_ ≠ (.slice (some adz21) tz11.length co33 : Value).ownBlock) vz29 tz28) := ⟨h2_⟩
 have n3_ : Aside0 (Kd.R Kd.string 9 w42 w.heap.size (fun k_ => some k_ ≠ (vz26 : Value).ownBlock ∧ some k_ ≠ (.slice Ao34 xz11000_2.length co34 : Value).ownBlock) vz15 x10_2) := ⟨h3_⟩
 have n4_ : Aside0 (Kd.R Kd.string 9 w42 w.heap.size (fun k_ => some k_ ≠ (vz26 : Value).ownBlock ∧ some k_ ≠ (vz15 : Value).ownBlock) (.slice Ao34 xz11000_2.length co34) xz11000_2) := ⟨h4_⟩
 have n5_ : Aside0 (Kd.R k24 24 w42 w.heap.size (fun k_ => some k_ ≠ (vz23 : Value).ownBlock ∧ some k_ ≠ (vz29 : Value).ownBlock ∧ some k_ ≠ (.slice (some adz21) tz11.length co33 : Value).ownBlock) (.slice Ao35 xz11001_2.length co35) xz11001_2) := ⟨h5_⟩
 have n6_ : Aside0 (Kd.R k24 24 w42 w.heap.size (fun k_ => some k_ ≠ (vz23 : Value).ownBlock ∧ some k_ ≠ (vz29 : Value).ownBlock ∧ some k_ ≠ (.slice Ao35 xz11001_2.length co35 : Value).ownBlock) (.slice (some adz21) tz11.length co33) tz11) := ⟨h6_⟩
 have n7_ : Aside0 (w42.heap[gbz10]? = some (.cells #[.slice Ao34 xz11000_2.length co34, .slice Ao35 xz11001_2.length co35] 30 (0, 0))) := ⟨h7_⟩
 have n8_ : Aside0 (w42.heap[gbz32]? = some (.cells #[.slice none 0 0, .slice none 0 0] 30 (0, 0))) := ⟨h8_⟩
 have n9_ : Aside0 (w.heap.size ≤ gbz32) := ⟨h9_⟩
 have n10_ : Aside0 (w.heap.size ≤ gbz32) := ⟨h10_⟩
 have n11_ : Aside0 (gbz10 ≠ gbz32) := ⟨h11_⟩
 have n12_ : Aside0 (gbz32 ≠ gbz10) := ⟨h12_⟩
 have n13_ : Aside0 (Below w.heap.size w w42) := ⟨h13_⟩
 clear HO_9 HO_10 HO_z11000 HO_z11001 BKz10 HB h0_ h1_ h2_ h3_ h4_ h5_ h6_ h7_ h8_ h9_ h10_ h11_ h12_ h13_; have HOz24 := n0_; have HOz27 := n1_; have HOz30 := n2_; have HO_10 := n3_; have HO_z11000 := n4_; have HO_z11001 := n5_; have HO_9 := n6_; have BKz10 := n7_; have BKz32 := n8_; have GWz32 := n9_; have GEz32 := n10_; have NBz10_z32 := n11_; have NBz32_z10 := n12_; have HB := n13_; clear n0_ n1_ n2_ n3_ n4_ n5_ n6_ n7_ n8_ n9_ n10_ n11_ n12_ n13_
 have hHeld : w42.cell? ⟨gbz10, 0, none⟩ = some (.slice Ao34 xz11000_2.length co34) ∧ w42.cell? ⟨gbz10, 1, none⟩ = some (.slice Ao35 xz11001_2.length co35) ∧ w42.cell? (adz21.add ((x12_2).toNat * 3)) = some (.bool ((rd_T24 tz11 x12_2).f0)) ∧ w42.cell? ⟨(adz21.add ((x12_2).toNat * 3)).block, (adz21.add ((x12_2).toNat * 3)).off + 1, none⟩ = some (.int .i64 ((rd_T24 tz11 x12_2).f1)) ∧ w42.cell? ⟨(adz21.add ((x12_2).toNat * 3)).block, (adz21.add ((x12_2).toNat * 3)).off + 2, none⟩ = some (.string ((rd_T24 tz11 x12_2).f2)) := hS_
 obtain ⟨Ao43, co43, eo43⟩ := Kd.R_slice HOz27.out
 (first | subst eo43 | (injection eo43 with f1_ f2_ f3_; have f4_ := f1_.symm; have f5_ := f3_.symm; clear f1_ f2_ f3_; subst f4_; subst f5_))
 obtain ⟨Ao45, co45, eo45⟩ := Kd.R_slice HOz30.out
 (first | subst eo45 | (injection eo45 with f1_ f2_ f3_; have f4_ := f1_.symm; have f5_ := f3_.symm; clear f1_ f2_ f3_; subst f4_; subst f5_))
 refine norm_ (by simp only [putAll, Act.put, List.setIfInBounds_toArray, List.set_cons_zero, List.set_cons_succ]; rfl) ?_
 refine on_ 11 none HT_ rfl rfl (fun K hK => ?_)
 have hs44 : w42.cell? ⟨gbz32, 0, none⟩ = some (.slice none 0 0) := (blk_cell BKz32.out 0).trans rfl
 have hfs44 := blk_frozen BKz32.out 0
 have := NBz10_z32.out
 have := NBz32_z10.out
 have hs46 : w42.cell? ⟨gbz32, 1, none⟩ = some (.slice none 0 0) := (blk_cell BKz32.out 1).trans rfl
 have hfs46 := blk_frozen BKz32.out 1
 have := NBz10_z32.out
 have := NBz32_z10.out
 refine skip_ (by rfl) rfl (by go_simp; rfl) ?_
 refine hK.out _ _ ⟨((cell_far (p := ⟨gbz32, _, none⟩) NBz10_z32.out _).trans (((cell_far (p := ⟨gbz32, _, none⟩) NBz10_z32.out _).trans (hHeld.1)))), ((cell_far (p := ⟨gbz32, _, none⟩) NBz10_z32.out _).trans (((cell_far (p := ⟨gbz32, _, none⟩) NBz10_z32.out _).trans (hHeld.2.1)))), ((cell_far (p := ⟨gbz32, _, none⟩) (by first | exact Kd.own_blk (Kd.R_ne HO_9.out BKz32.out (by decide)) | (rw [add_block]; exact Kd.own_blk (Kd.R_ne HO_9.out BKz32.out (by decide))) | (show (Addr.add _ _).block ≠ _; rw [add_block]; exact Kd.own_blk (Kd.R_ne HO_9.out BKz32.out (by decide))) | (dsimp only; exact Kd.own_blk (Kd.R_ne HO_9.out BKz32.out (by decide)))) _).trans (((cell_far (p := ⟨gbz32, _, none⟩) (by first | exact Kd.own_blk (Kd.R_ne HO_9.out BKz32.out (by decide)) | (rw [add_block]; exact Kd.own_blk (Kd.R_ne HO_9.out BKz32.out (by decide))) | (show (Addr.add _ _).block ≠ _; rw [add_block]; exact Kd.own_blk (Kd.R_ne HO_9.out BKz32.out (by decide))) | (dsimp only; exact Kd.own_blk (Kd.R_ne HO_9.out BKz32.out (by decide)))) _).trans (hHeld.2.2.1)))), ((cell_far (p := ⟨gbz32, _, none⟩) (by first | exact Kd.own_blk (Kd.R_ne HO_9.out BKz32.out (by decide)) | (rw [add_block]; exact Kd.own_blk (Kd.R_ne HO_9.out BKz32.out (by decide))) | (show (Addr.add _ _).block ≠ _; rw [add_block]; exact Kd.own_blk (Kd.R_ne HO_9.out BKz32.out (by decide))) | (dsimp only; exact Kd.own_blk (Kd.R_ne HO_9.out BKz32.out (by decide)))) _).trans (((cell_far (p := ⟨gbz32, _, none⟩) (by first | exact Kd.own_blk (Kd.R_ne HO_9.out BKz32.out (by decide)) | (rw [add_block]; exact Kd.own_blk (Kd.R_ne HO_9.out BKz32.out (by decide))) | (show (Addr.add _ _).block ≠ _; rw [add_block]; exact Kd.own_blk (Kd.R_ne HO_9.out BKz32.out (by decide))) | (dsimp only; exact Kd.own_blk (Kd.R_ne HO_9.out BKz32.out (by decide)))) _).trans (hHeld.2.2.2.1)))), ((cell_far (p := ⟨gbz32, _, none⟩) (by first | exact Kd.own_blk (Kd.R_ne HO_9.out BKz32.out (by decide)) | (rw [add_block]; exact Kd.own_blk (Kd.R_ne HO_9.out BKz32.out (by decide))) | (show (Addr.add _ _).block ≠ _; rw [add_block]; exact Kd.own_blk (Kd.R_ne HO_9.out BKz32.out (by decide))) | (dsimp only; exact Kd.own_blk (Kd.R_ne HO_9.out BKz32.out (by decide)))) _).trans (((cell_far (p := ⟨gbz32, _, none⟩) (by first | exact Kd.own_blk (Kd.R_ne HO_9.out BKz32.out (by decide)) | (rw [add_block]; exact Kd.own_blk (Kd.R_ne HO_9.out BKz32.out (by decide))) | (show (Addr.add _ _).block ≠ _; rw [add_block]; exact Kd.own_blk (Kd.R_ne HO_9.out BKz32.out (by decide))) | (dsimp only; exact Kd.own_blk (Kd.R_ne HO_9.out BKz32.out (by decide)))) _).trans (hHeld.2.2.2.2))))⟩ (fun hHeld => ?_)
 clear hK K
 refine pu_ 12 (some 14) HT_ rfl rfl (.inl ⟨by rfl, by intro w'; go_simp; with_reducible rfl⟩) (by simp only [Act.put, sa_, s0_, s1_, i64_w, i32_w]; rfl) ?_
 refine done_ (done_of HT_.out (by kernel_rfl)) ?_
 go_upto_region 14 with (fail)
 go_cut [68] (fun v68 wc => ∃ (kq : Nat) (x68_31 : Bool), v68 = .bool x68_31 ∧ Aside0 (columbariumlaw14_DiskLast.j2 kq tz1 ji7 tz9 tz11 x10_2 x12_2 x68_31 tz25 tz28 = some r) ∧ Aside0 (kq ≤ k2) ∧ Aside0 (Kd.R k24 24 wc w.heap.size (fun k_ => some k_ ≠ ((.slice Ao35 xz11001_2.length co35) : Value).ownBlock ∧ some k_ ≠ ((.slice Ao45 tz28.length co45) : Value).ownBlock) (.slice (some adz21) tz11.length co33) tz11) ∧ Aside0 (Kd.R Kd.string 9 wc w.heap.size (fun k_ => some k_ ≠ ((.slice Ao34 xz11000_2.length co34) : Value).ownBlock ∧ some k_ ≠ ((.slice Ao43 tz25.length co43) : Value).ownBlock) vz15 x10_2) ∧ Aside0 (Kd.R Kd.string 9 wc w.heap.size (fun k_ => some k_ ≠ (vz15 : Value).ownBlock ∧ some k_ ≠ ((.slice Ao43 tz25.length co43) : Value).ownBlock) (.slice Ao34 xz11000_2.length co34) xz11000_2) ∧ Aside0 (Kd.R k24 24 wc w.heap.size (fun k_ => some k_ ≠ ((.slice (some adz21) tz11.length co33) : Value).ownBlock ∧ some k_ ≠ ((.slice Ao45 tz28.length co45) : Value).ownBlock) (.slice Ao35 xz11001_2.length co35) xz11001_2) ∧ Aside0 (Kd.R Kd.string 9 wc w.heap.size (fun k_ => some k_ ≠ (vz15 : Value).ownBlock ∧ some k_ ≠ ((.slice Ao34 xz11000_2.length co34) : Value).ownBlock) (.slice Ao43 tz25.length co43) tz25) ∧ Aside0 (Kd.R k24 24 wc w.heap.size (fun k_ => some k_ ≠ ((.slice (some adz21) tz11.length co33) : Value).ownBlock ∧ some k_ ≠ ((.slice Ao35 xz11001_2.length co35) : Value).ownBlock) (.slice Ao45 tz28.length co45) tz28) ∧ Aside0 (wc.heap[gbz10]? = some (.cells #[(.slice Ao34 xz11000_2.length co34), (.slice Ao35 xz11001_2.length co35)] 30 (0, 0))) ∧ Aside0 (wc.heap[gbz32]? = some (.cells #[(.slice Ao43 tz25.length co43), (.slice Ao45 tz28.length co45)] 30 (0, 0))) ∧ Aside0 (Below w.heap.size w wc))
 case first =>
  have H := HC32.out
  clear HC32
  by_cases c47 : tz31 = 0
  rotate_left
  ·rw [if_neg c47] at H
   have c47b0 : (tz31 == 0) = false := beq_eq_false_iff_ne.mpr c47
   have c47b1 : (tz31 != 0) = true := bne_iff_ne.mpr c47
   (first | rw [c47b0] | rw [c47b1] | (simp only [i64_w, i32_w]; rw [c47b0]) | skip)
   have H' := am H
   clear H
   go_wp2
   go_meet
   case rel => exact ⟨_, (true), (by first | rfl | (simp; done) | (simp [*]; done)), H', ⟨by have := HK1.out; have := HK2.out; first | omega | exact Nat.le_refl _⟩, ⟨by (with_reducible repeat first | apply ra | apply rn | apply rd); exact Kd.R_mono (rf2 (Kd.R_types HO_9.out BKz32.out (by decide)) (fun _ hk => hk.2)) (fun _ hk => ⟨hk.1.2.2, hk.1.2.1⟩)⟩, ⟨by (with_reducible repeat first | apply ra | apply rn | apply rd); exact Kd.R_mono (rf2 (Kd.R_types HO_10.out BKz32.out (by decide)) (fun _ hk => hk.2)) (fun _ hk => ⟨hk.1.2, hk.1.1⟩)⟩, ⟨by (with_reducible repeat first | apply ra | apply rn | apply rd); exact Kd.R_mono (rf2 (Kd.R_types HO_z11000.out BKz32.out (by decide)) (fun _ hk => hk.2)) (fun _ hk => ⟨hk.1.2, hk.1.1⟩)⟩, ⟨by (with_reducible repeat first | apply ra | apply rn | apply rd); exact Kd.R_mono (rf2 (Kd.R_types HO_z11001.out BKz32.out (by decide)) (fun _ hk => hk.2)) (fun _ hk => ⟨hk.1.2.2, hk.1.2.1⟩)⟩, ⟨by (with_reducible repeat first | apply ra | apply rn | apply rd); exact Kd.R_mono (rf2 (Kd.R_types HOz27.out BKz32.out (by decide)) (fun _ hk => hk.2)) (fun _ hk => ⟨hk.1.1, hk.1.2⟩)⟩, ⟨by (with_reducible repeat first | apply ra | apply rn | apply rd); exact Kd.R_mono (rf2 (Kd.R_types HOz30.out BKz32.out (by decide)) (fun _ hk => hk.2)) (fun _ hk => ⟨hk.1.2.2, hk.1.2.1⟩)⟩, ⟨by (with_reducible repeat (first | refine blk_drewN ?_ _ | refine blk_drew ?_ | refine blk_alloc ?_ _)); refine blk_far ?_ NBz10_z32.out _; refine blk_far ?_ NBz10_z32.out _; (with_reducible repeat (first | refine blk_drewN ?_ _ | refine blk_drew ?_ | refine blk_alloc ?_ _)); exact BKz10.out⟩, ⟨by (with_reducible repeat (first | refine blk_drewN ?_ _ | refine blk_drew ?_ | refine blk_alloc ?_ _)); apply bp2; (with_reducible repeat (first | refine blk_drewN ?_ _ | refine blk_drew ?_ | refine blk_alloc ?_ _)); exact BKz32.out⟩, ⟨by repeat first | (with_reducible first | exact HB.out | apply ba | apply bn | apply bd | refine bs (by assumption) ?_) | exact HB.out⟩⟩
  rw [if_pos c47] at H
  have c47b0 : (tz31 == 0) = true := beq_iff_eq.mpr c47
  have c47b1 : (tz31 != 0) = false := bne_eq_false_iff_eq.mpr c47
  clear c47
  (first | rw [c47b0] | rw [c47b1] | (simp only [i64_w, i32_w]; rw [c47b0]) | skip)
  replace H := ob_ H
  obtain ⟨tz33, A480, H⟩ := H
  replace H : (columbariumlaw14_DiskLast.j2 k2 tz1 ji7 tz9 tz11 x10_2 x12_2 (!tz33) tz25 tz28) = some r := H
  have A48 := Aside0.mk A480
  clear A480
  have H' := am H
  clear H
  have hnb49 := NBz32_z10.out
  have hnc49 := NBz10_z32.out
  obtain ⟨hcz50_0, hcz50_1⟩ := bc2 BKz32
  obtain ⟨hfz50_0, hfz50_1⟩ := bf2 BKz32
  go_wp2_with (first | (go_at_call 20; (with_reducible refine (disk_Right.calls _ _ tz25 _ _ tz28 tz33 _ ?side1 ?side2 ?side3 ?side4 A48.out).mono ?_); (case side1 => refine (Kd.R_reads' (e := 9) (base := w.heap.size) (ok := fun k_ => (some k_ ≠ (vz15 : Value).ownBlock ∧ some k_ ≠ (.slice Ao34 xz11000_2.length co34 : Value).ownBlock)) (n := tz25.length) (c := co43) ?_).2.2; exact (by (with_reducible repeat first | apply ra | apply rn | apply rd); exact (rs2 HOz27 BKz32 (by decide)))); (case side2 => exact (Kd.R_reads' HOz27.out).2.1); (case side3 => refine (Kd.R_reads' (e := 24) (base := w.heap.size) (ok := fun k_ => (some k_ ≠ (vz23 : Value).ownBlock ∧ (some k_ ≠ (.slice Ao35 xz11001_2.length co35 : Value).ownBlock ∧ some k_ ≠ (.slice (some adz21) tz11.length co33 : Value).ownBlock))) (n := tz28.length) (c := co45) ?_).2.2; exact (by (with_reducible repeat first | apply ra | apply rn | apply rd); exact (rs2 HOz30 BKz32 (by decide)))); (case side4 => exact (Kd.R_reads' HOz30.out).2.1); rintro e w51 ⟨rfl, hb⟩; have n0_ := am (Kd.R_below (by (with_reducible repeat first | apply ra | apply rn | apply rd); exact (rs2 HO_9 BKz32 (by decide))) hb); have n1_ := am (Kd.R_below (by (with_reducible repeat first | apply ra | apply rn | apply rd); exact (rs2 HO_10 BKz32 (by decide))) hb); have n2_ := am (Kd.R_below (by (with_reducible repeat first | apply ra | apply rn | apply rd); exact (rs2 HO_z11000 BKz32 (by decide))) hb); have n3_ := am (Kd.R_below (by (with_reducible repeat first | apply ra | apply rn | apply rd); exact (rs2 HO_z11001 BKz32 (by decide))) hb); have n4_ := am (Kd.R_below (by (with_reducible repeat first | apply ra | apply rn | apply rd); exact (rs2 HOz24 BKz32 (by decide))) hb); have n5_ := am (Kd.R_below (by (with_reducible repeat first | apply ra | apply rn | apply rd); exact (rs2 HOz27 BKz32 (by decide))) hb); have n6_ := am (Kd.R_below (by (with_reducible repeat first | apply ra | apply rn | apply rd); exact (rs2 HOz30 BKz32 (by decide))) hb); have n7_ := am (blk_below (g := gbz10) (o := .cells #[.slice Ao34 xz11000_2.length co34, .slice Ao35 xz11001_2.length co35] 30 (0, 0)) (by (with_reducible repeat (first | refine blk_drewN ?_ _ | refine blk_drew ?_ | refine blk_alloc ?_ _)); refine blk_far ?_ NBz10_z32.out _; refine blk_far ?_ NBz10_z32.out _; exact pk BKz10) hb); have n8_ := am (blk_below (g := gbz32) (o := .cells #[.slice Ao43 tz25.length co43, .slice Ao45 tz28.length co45] 30 (0, 0)) (by (with_reducible repeat (first | refine blk_drewN ?_ _ | refine blk_drew ?_ | refine blk_alloc ?_ _)); apply bp2; exact pk BKz32) hb); have n9_ := am (below_step (by repeat first | (with_reducible first | exact HB.out | apply ba | apply bn | apply bd | refine bs (by assumption) ?_) | exact HB.out) hb); clear HO_9; clear HO_10; clear HO_z11000; clear HO_z11001; clear HOz24; clear HOz27; clear HOz30; clear BKz10; clear BKz32; clear HB; have HO_9 := n0_; have HO_10 := n1_; have HO_z11000 := n2_; have HO_z11001 := n3_; have HOz24 := n4_; have HOz27 := n5_; have HOz30 := n6_; have BKz10 := n7_; have BKz32 := n8_; have HB := n9_; clear n0_ n1_ n2_ n3_ n4_ n5_ n6_ n7_ n8_ n9_; (try clear hi)))
  go_meet
  case rel => exact ⟨_, (!tz33), (by first | rfl | (simp; done) | (simp [*]; done)), H', ⟨by have := HK1.out; have := HK2.out; first | omega | exact Nat.le_refl _⟩, ⟨by (with_reducible repeat first | apply ra | apply rn | apply rd); exact Kd.R_mono HO_9.out (fun _ hk => ⟨hk.2.2, hk.2.1⟩)⟩, ⟨by (with_reducible repeat first | apply ra | apply rn | apply rd); exact Kd.R_mono HO_10.out (fun _ hk => ⟨hk.2, hk.1⟩)⟩, ⟨by (with_reducible repeat first | apply ra | apply rn | apply rd); exact Kd.R_mono HO_z11000.out (fun _ hk => ⟨hk.2, hk.1⟩)⟩, ⟨by (with_reducible repeat first | apply ra | apply rn | apply rd); exact Kd.R_mono HO_z11001.out (fun _ hk => ⟨hk.2.2, hk.2.1⟩)⟩, ⟨by (with_reducible repeat first | apply ra | apply rn | apply rd); exact HOz27.out⟩, ⟨by (with_reducible repeat first | apply ra | apply rn | apply rd); exact Kd.R_mono HOz30.out (fun _ hk => ⟨hk.2.2, hk.2.1⟩)⟩, ⟨by (with_reducible repeat (first | refine blk_drewN ?_ _ | refine blk_drew ?_ | refine blk_alloc ?_ _)); exact BKz10.out⟩, ⟨by (with_reducible repeat (first | refine blk_drewN ?_ _ | refine blk_drew ?_ | refine blk_alloc ?_ _)); exact BKz32.out⟩, ⟨by repeat first | (with_reducible first | exact HB.out | apply ba | apply bn | apply bd | refine bs (by assumption) ?_) | exact HB.out⟩⟩
 clear HC32
 try clear c2
 try clear p2
 try clear c3
 try clear c4
 try clear c25
 try clear c47
 try clear c47b0
 try clear c47b1
 try clear c49
 try clear hcz50_0
 try clear hcz50_1
 try clear hfz50_0
 try clear hfz50_1
 obtain ⟨kq, x68_31, rfl, HA, HJ31, HO_9, HO_10, HO_z11000, HO_z11001, HO_z33000, HO_z33001, BKz10, BKz32, HB⟩ := hcut
 cases kq with
 | zero => exact absurd HA.out (by simp [columbariumlaw14_DiskLast.j2])
 | succ kj31 => ?_
 have H := HA.out
 clear HA
 simp only [columbariumlaw14_DiskLast.j2] at H
 by_cases c52 : x68_31 = true
 ·subst c52
  have H1 : (none) = some r := by rw [if_pos rfl] at H; exact H
  clear H
  have H := H1
  clear H1
  exact absurd H (by simp)
 replace c52 := Bool.eq_false_iff.mpr c52
 subst c52
 have H1 : (if 0 ≤ x12_2 then (if x12_2 < (tz11.length : Int) then (if ((rd_T24 tz11 x12_2).f0 = true) then (columbariumlaw14_DiskLast.l1 kj31 tz1 ji7 tz9 tz11 x10_2 (wrap64 (x12_2 + 1)) tz25 tz28) else (if 0 ≤ ((rd_T24 tz11 x12_2).f1) then (if ((rd_T24 tz11 x12_2).f1) < (x10_2.length : Int) then (columbariumlaw14_DiskLast.l1 kj31 tz1 ji7 tz9 tz11 (x10_2.set (((rd_T24 tz11 x12_2).f1) : Int).toNat ((rd_T24 tz11 x12_2).f2)) (wrap64 (x12_2 + 1)) tz25 tz28) else (none)) else (none))) else (none)) else (none)) = some r := by rw [if_neg (show ¬ (false = true) by decide)] at H; exact H
 clear H
 have H := H1
 clear H1
 by_cases c53 : 0 ≤ x12_2
 rotate_left
 ·rw [if_neg c53] at H
  exact absurd H (by simp)
 rw [if_pos c53] at H
 have c53b0 : decide (0 ≤ x12_2) = true := decide_eq_true c53
 clear c53
 by_cases c54 : x12_2 < (tz11.length : Int)
 rotate_left
 ·rw [if_neg c54] at H
  exact absurd H (by simp)
 rw [if_pos c54] at H
 have c54b0 : decide (x12_2 < (tz11.length : Int)) = true := decide_eq_true c54
 clear c54
 obtain ⟨bq55, hbq55⟩ : ∃ b_ : Bool, b_ = ((rd_T24 tz11 x12_2).f0) := ⟨_, rfl⟩
 replace H : (if (bq55 = true) then (columbariumlaw14_DiskLast.l1 kj31 tz1 ji7 tz9 tz11 x10_2 (wrap64 (x12_2 + 1)) tz25 tz28) else (if 0 ≤ ((rd_T24 tz11 x12_2).f1) then (if ((rd_T24 tz11 x12_2).f1) < (x10_2.length : Int) then (columbariumlaw14_DiskLast.l1 kj31 tz1 ji7 tz9 tz11 (x10_2.set (((rd_T24 tz11 x12_2).f1) : Int).toNat ((rd_T24 tz11 x12_2).f2)) (wrap64 (x12_2 + 1)) tz25 tz28) else (none)) else (none))) = some r := by rw [← hbq55] at H; exact H
 have Nbq55 := am hbq55
 clear hbq55
 by_cases c56 : (bq55 = true)
 ·subst c56
  have H1 : (columbariumlaw14_DiskLast.l1 kj31 tz1 ji7 tz9 tz11 x10_2 (wrap64 (x12_2 + 1)) tz25 tz28) = some r := by rw [if_pos rfl] at H; exact H
  clear H
  have H := H1
  clear H1
  have H' := am H
  clear H
  have hnb57 := NBz32_z10.out
  have hnc57 := NBz10_z32.out
  obtain ⟨hcz58_0, hcz58_1⟩ := bc2 BKz32
  obtain ⟨hfz58_0, hfz58_1⟩ := bf2 BKz32
  obtain ⟨hcz59_0, hcz59_1⟩ := bc2 BKz10
  obtain ⟨hfz59_0, hfz59_1⟩ := bf2 BKz10
  have pz34 : 0 ≤ (x12_2 : Int) := of_decide_eq_true (by first | (with_reducible assumption) | assumption)
  have qz34 : x12_2 < (tz11.length : Int) := of_decide_eq_true (by first | (with_reducible assumption) | assumption)
  obtain ⟨adz34, ez34, hxz34_0, hxz34_1, hxz34_2⟩ := at_T24 (Kd.R_reads' HO_9.out).2.2 x12_2 pz34 qz34
  (try rw [← Nbq55.out] at hxz34_0)
  obtain rfl : adz21 = adz34 := (by injection ez34)
  have hnz34_0 : adz21.block ≠ gbz10 := Kd.own_blk (Kd.R_ne HO_9.out BKz10.out (by decide))
  have hnz34_1 : adz21.block ≠ gbz10 := Kd.own_blk (Kd.R_ne HO_9.out BKz10.out (by decide))
  replace hxz34_0 := (cell_far (p := ⟨gbz10, 0, none⟩) (by first | (rw [add_block]; exact hnz34_0) | (show (Addr.add _ _).block ≠ _; rw [add_block]; exact hnz34_0) | exact hnz34_0) (.slice Ao43 tz25.length co43)).trans hxz34_0
  replace hxz34_1 := (cell_far (p := ⟨gbz10, 0, none⟩) (by first | (rw [add_block]; exact hnz34_0) | (show (Addr.add _ _).block ≠ _; rw [add_block]; exact hnz34_0) | exact hnz34_0) (.slice Ao43 tz25.length co43)).trans hxz34_1
  replace hxz34_2 := (cell_far (p := ⟨gbz10, 0, none⟩) (by first | (rw [add_block]; exact hnz34_0) | (show (Addr.add _ _).block ≠ _; rw [add_block]; exact hnz34_0) | exact hnz34_0) (.slice Ao43 tz25.length co43)).trans hxz34_2
  replace hxz34_0 := (cell_far (p := ⟨gbz10, 1, none⟩) (by first | (rw [add_block]; exact hnz34_1) | (show (Addr.add _ _).block ≠ _; rw [add_block]; exact hnz34_1) | exact hnz34_1) (.slice Ao45 tz28.length co45)).trans hxz34_0
  replace hxz34_1 := (cell_far (p := ⟨gbz10, 1, none⟩) (by first | (rw [add_block]; exact hnz34_1) | (show (Addr.add _ _).block ≠ _; rw [add_block]; exact hnz34_1) | exact hnz34_1) (.slice Ao45 tz28.length co45)).trans hxz34_1
  replace hxz34_2 := (cell_far (p := ⟨gbz10, 1, none⟩) (by first | (rw [add_block]; exact hnz34_1) | (show (Addr.add _ _).block ≠ _; rw [add_block]; exact hnz34_1) | exact hnz34_1) (.slice Ao45 tz28.length co45)).trans hxz34_2
  clear hnz34_0 hnz34_1
  replace pz34 := eq_true pz34
  replace qz34 := eq_true qz34
  go_wp2
  go_roundg kj31
  case measure => have := HK1.out; have := HK2.out; have := HJ31.out; omega
  case rel => exact ⟨(x10_2), (wrap64 (x12_2 + 1)), (tz25), (tz28), (.slice Ao43 tz25.length co43), (.slice Ao45 tz28.length co45), (by first | rfl | (simp; done) | (simp [*]; done)), H', ⟨by have := HK1.out; have := HK2.out; have := HJ31.out; omega⟩, ⟨by (with_reducible repeat first | apply ra | apply rn | apply rd); exact Kd.R_mono (rf2 (Kd.R_types HO_9.out BKz10.out (by decide)) (fun _ hk => hk.2)) (fun _ hk => hk.1.2)⟩, ⟨by (with_reducible repeat first | apply ra | apply rn | apply rd); exact Kd.R_mono (rf2 (Kd.R_types HO_10.out BKz10.out (by decide)) (fun _ hk => hk.2)) (fun _ hk => hk.1.2)⟩, ⟨by (with_reducible repeat first | apply ra | apply rn | apply rd); exact Kd.R_mono (rf2 (Kd.R_types HO_z33000.out BKz10.out (by decide)) (fun _ hk => hk.2)) (fun _ hk => hk.1.1)⟩, ⟨by (with_reducible repeat first | apply ra | apply rn | apply rd); exact Kd.R_mono (rf2 (Kd.R_types HO_z33001.out BKz10.out (by decide)) (fun _ hk => hk.2)) (fun _ hk => hk.1.1)⟩, ⟨by (with_reducible repeat (first | refine blk_drewN ?_ _ | refine blk_drew ?_ | refine blk_alloc ?_ _)); apply bp2; (with_reducible repeat (first | refine blk_drewN ?_ _ | refine blk_drew ?_ | refine blk_alloc ?_ _)); exact BKz10.out⟩, ⟨by repeat first | (with_reducible first | exact HB.out | apply ba | apply bn | apply bd | refine bs (by assumption) ?_) | exact HB.out⟩⟩
 replace c56 := Bool.eq_false_iff.mpr c56
 subst c56
 have H1 : (if 0 ≤ ((rd_T24 tz11 x12_2).f1) then (if ((rd_T24 tz11 x12_2).f1) < (x10_2.length : Int) then (columbariumlaw14_DiskLast.l1 kj31 tz1 ji7 tz9 tz11 (x10_2.set (((rd_T24 tz11 x12_2).f1) : Int).toNat ((rd_T24 tz11 x12_2).f2)) (wrap64 (x12_2 + 1)) tz25 tz28) else (none)) else (none)) = some r := by rw [if_neg (show ¬ (false = true) by decide)] at H; exact H
 clear H
 have H := H1
 clear H1
 by_cases c60 : 0 ≤ ((rd_T24 tz11 x12_2).f1)
 rotate_left
 ·rw [if_neg c60] at H
  exact absurd H (by simp)
 rw [if_pos c60] at H
 have c60b0 : decide (0 ≤ ((rd_T24 tz11 x12_2).f1)) = true := decide_eq_true c60
 clear c60
 by_cases c61 : ((rd_T24 tz11 x12_2).f1) < (x10_2.length : Int)
 rotate_left
 ·rw [if_neg c61] at H
  exact absurd H (by simp)
 rw [if_pos c61] at H
 have c61b0 : decide (((rd_T24 tz11 x12_2).f1) < (x10_2.length : Int)) = true := decide_eq_true c61
 clear c61
 obtain ⟨yz37, hyz37⟩ : ∃ y_ : List ByteArray, y_ = (x10_2.set (((rd_T24 tz11 x12_2).f1) : Int).toNat ((rd_T24 tz11 x12_2).f2)) := ⟨_, rfl⟩
 replace H : (columbariumlaw14_DiskLast.l1 kj31 tz1 ji7 tz9 tz11 yz37 (wrap64 (x12_2 + 1)) tz25 tz28) = some r := by first | (rw [hyz37]; with_reducible exact H) | (have H2_ := (Option.bind_some _ _).symm.trans H; rw [hyz37]; with_reducible exact H2_) | (have H2_ := (Option.bind_some _ _).symm.trans H; with_reducible exact H2_) | with_reducible exact H | (rw [hyz37]; exact H) | exact H
 have Nyz37 := am hyz37
 clear hyz37
 have H' := am H
 clear H
 have hnb63 := NBz32_z10.out
 have hnc63 := NBz10_z32.out
 obtain ⟨hcz64_0, hcz64_1⟩ := bc2 BKz32
 obtain ⟨hfz64_0, hfz64_1⟩ := bf2 BKz32
 obtain ⟨hcz65_0, hcz65_1⟩ := bc2 BKz10
 obtain ⟨hfz65_0, hfz65_1⟩ := bf2 BKz10
 have pz34 : 0 ≤ (x12_2 : Int) := of_decide_eq_true (by first | (with_reducible assumption) | assumption)
 have qz34 : x12_2 < (tz11.length : Int) := of_decide_eq_true (by first | (with_reducible assumption) | assumption)
 obtain ⟨adz34, ez34, hxz34_0, hxz34_1, hxz34_2⟩ := at_T24 (Kd.R_reads' HO_9.out).2.2 x12_2 pz34 qz34
 (try rw [← Nbq55.out] at hxz34_0)
 obtain rfl : adz21 = adz34 := (by injection ez34)
 have hnz34_0 : adz21.block ≠ gbz10 := Kd.own_blk (Kd.R_ne HO_9.out BKz10.out (by decide))
 have hnz34_1 : adz21.block ≠ gbz10 := Kd.own_blk (Kd.R_ne HO_9.out BKz10.out (by decide))
 replace hxz34_0 := (cell_far (p := ⟨gbz10, 0, none⟩) (by first | (rw [add_block]; exact hnz34_0) | (show (Addr.add _ _).block ≠ _; rw [add_block]; exact hnz34_0) | exact hnz34_0) (.slice Ao43 tz25.length co43)).trans hxz34_0
 replace hxz34_1 := (cell_far (p := ⟨gbz10, 0, none⟩) (by first | (rw [add_block]; exact hnz34_0) | (show (Addr.add _ _).block ≠ _; rw [add_block]; exact hnz34_0) | exact hnz34_0) (.slice Ao43 tz25.length co43)).trans hxz34_1
 replace hxz34_2 := (cell_far (p := ⟨gbz10, 0, none⟩) (by first | (rw [add_block]; exact hnz34_0) | (show (Addr.add _ _).block ≠ _; rw [add_block]; exact hnz34_0) | exact hnz34_0) (.slice Ao43 tz25.length co43)).trans hxz34_2
 replace hxz34_0 := (cell_far (p := ⟨gbz10, 1, none⟩) (by first | (rw [add_block]; exact hnz34_1) | (show (Addr.add _ _).block ≠ _; rw [add_block]; exact hnz34_1) | exact hnz34_1) (.slice Ao45 tz28.length co45)).trans hxz34_0
 replace hxz34_1 := (cell_far (p := ⟨gbz10, 1, none⟩) (by first | (rw [add_block]; exact hnz34_1) | (show (Addr.add _ _).block ≠ _; rw [add_block]; exact hnz34_1) | exact hnz34_1) (.slice Ao45 tz28.length co45)).trans hxz34_1
 replace hxz34_2 := (cell_far (p := ⟨gbz10, 1, none⟩) (by first | (rw [add_block]; exact hnz34_1) | (show (Addr.add _ _).block ≠ _; rw [add_block]; exact hnz34_1) | exact hnz34_1) (.slice Ao45 tz28.length co45)).trans hxz34_2
 clear hnz34_0 hnz34_1
 replace pz34 := eq_true pz34
 replace qz34 := eq_true qz34
 try go_wp2
 have n0_ : Aside0 (Kd.R k24 24 ((wc.setCell ⟨gbz10, 0, none⟩ (.slice Ao43 tz25.length co43)).setCell ⟨gbz10, 1, none⟩ (.slice Ao45 tz28.length co45)) w.heap.size (fun k_ => some k_ ≠ (.slice Ao35 xz11001_2.length co35 : Value).ownBlock ∧ some k_ ≠ (.slice Ao45 tz28.length co45 : Value).ownBlock) (.slice (some adz21) tz11.length co33) tz11) := ⟨by (with_reducible repeat first | apply ra | apply rn | apply rd); exact Kd.R_mono (rf2 (Kd.R_types HO_9.out BKz10.out (by decide)) (fun _ hk => hk.2)) (fun _ hk => ⟨hk.1.1, hk.1.2⟩)⟩
 have n1_ : Aside0 (Kd.R Kd.string 9 ((wc.setCell ⟨gbz10, 0, none⟩ (.slice Ao43 tz25.length co43)).setCell ⟨gbz10, 1, none⟩ (.slice Ao45 tz28.length co45)) w.heap.size (fun k_ => some k_ ≠ (.slice Ao34 xz11000_2.length co34 : Value).ownBlock ∧ some k_ ≠ (.slice Ao43 tz25.length co43 : Value).ownBlock) vz15 x10_2) := ⟨by (with_reducible repeat first | apply ra | apply rn | apply rd); exact Kd.R_mono (rf2 (Kd.R_types HO_10.out BKz10.out (by decide)) (fun _ hk => hk.2)) (fun _ hk => ⟨hk.1.1, hk.1.2⟩)⟩
 have n2_ : Aside0 (Kd.R Kd.string 9 ((wc.setCell ⟨gbz10, 0, none⟩ (.slice Ao43 tz25.length co43)).setCell ⟨gbz10, 1, none⟩ (.slice Ao45 tz28.length co45)) w.heap.size (fun k_ => some k_ ≠ (vz15 : Value).ownBlock ∧ some k_ ≠ (.slice Ao43 tz25.length co43 : Value).ownBlock) (.slice Ao34 xz11000_2.length co34) xz11000_2) := ⟨by (with_reducible repeat first | apply ra | apply rn | apply rd); exact Kd.R_mono (rf2 (Kd.R_types HO_z11000.out BKz10.out (by decide)) (fun _ hk => hk.2)) (fun _ hk => ⟨hk.1.1, hk.1.2⟩)⟩
 have n3_ : Aside0 (Kd.R k24 24 ((wc.setCell ⟨gbz10, 0, none⟩ (.slice Ao43 tz25.length co43)).setCell ⟨gbz10, 1, none⟩ (.slice Ao45 tz28.length co45)) w.heap.size (fun k_ => some k_ ≠ (.slice (some adz21) tz11.length co33 : Value).ownBlock ∧ some k_ ≠ (.slice Ao45 tz28.length co45 : Value).ownBlock) (.slice Ao35 xz11001_2.length co35) xz11001_2) := ⟨by (with_reducible repeat first | apply ra | apply rn | apply rd); exact Kd.R_mono (rf2 (Kd.R_types HO_z11001.out BKz10.out (by decide)) (fun _ hk => hk.2)) (fun _ hk => ⟨hk.1.1, hk.1.2⟩)⟩
 have n4_ : Aside0 (Kd.R Kd.string 9 ((wc.setCell ⟨gbz10, 0, none⟩ (.slice Ao43 tz25.length co43)).setCell ⟨gbz10, 1, none⟩ (.slice Ao45 tz28.length co45)) w.heap.size (fun k_ => some k_ ≠ (vz15 : Value).ownBlock ∧ some k_ ≠ (.slice Ao34 xz11000_2.length co34 : Value).ownBlock) (.slice Ao43 tz25.length co43) tz25) := ⟨by (with_reducible repeat first | apply ra | apply rn | apply rd); exact Kd.R_mono (rf2 (Kd.R_types HO_z33000.out BKz10.out (by decide)) (fun _ hk => hk.2)) (fun _ hk => ⟨hk.1.1, hk.1.2⟩)⟩
 have n5_ : Aside0 (Kd.R k24 24 ((wc.setCell ⟨gbz10, 0, none⟩ (.slice Ao43 tz25.length co43)).setCell ⟨gbz10, 1, none⟩ (.slice Ao45 tz28.length co45)) w.heap.size (fun k_ => some k_ ≠ (.slice (some adz21) tz11.length co33 : Value).ownBlock ∧ some k_ ≠ (.slice Ao35 xz11001_2.length co35 : Value).ownBlock) (.slice Ao45 tz28.length co45) tz28) := ⟨by (with_reducible repeat first | apply ra | apply rn | apply rd); exact Kd.R_mono (rf2 (Kd.R_types HO_z33001.out BKz10.out (by decide)) (fun _ hk => hk.2)) (fun _ hk => ⟨hk.1.1, hk.1.2⟩)⟩
 have n6_ : Aside0 (((wc.setCell ⟨gbz10, 0, none⟩ (.slice Ao43 tz25.length co43)).setCell ⟨gbz10, 1, none⟩ (.slice Ao45 tz28.length co45)).heap[gbz10]? = some (.cells #[.slice Ao43 tz25.length co43, .slice Ao45 tz28.length co45] 30 (0, 0))) := ⟨by (with_reducible repeat (first | refine blk_drewN ?_ _ | refine blk_drew ?_ | refine blk_alloc ?_ _)); apply bp2; (with_reducible repeat (first | refine blk_drewN ?_ _ | refine blk_drew ?_ | refine blk_alloc ?_ _)); exact BKz10.out⟩
 have n7_ : Aside0 (((wc.setCell ⟨gbz10, 0, none⟩ (.slice Ao43 tz25.length co43)).setCell ⟨gbz10, 1, none⟩ (.slice Ao45 tz28.length co45)).heap[gbz32]? = some (.cells #[.slice Ao43 tz25.length co43, .slice Ao45 tz28.length co45] 30 (0, 0))) := ⟨by (with_reducible repeat (first | refine blk_drewN ?_ _ | refine blk_drew ?_ | refine blk_alloc ?_ _)); refine blk_far ?_ NBz32_z10.out _; refine blk_far ?_ NBz32_z10.out _; (with_reducible repeat (first | refine blk_drewN ?_ _ | refine blk_drew ?_ | refine blk_alloc ?_ _)); exact BKz32.out⟩
 have n8_ : Aside0 (Below w.heap.size w ((wc.setCell ⟨gbz10, 0, none⟩ (.slice Ao43 tz25.length co43)).setCell ⟨gbz10, 1, none⟩ (.slice Ao45 tz28.length co45))) := ⟨by repeat first | (with_reducible first | exact HB.out | apply ba | apply bn | apply bd | refine bs (by assumption) ?_) | exact HB.out⟩
 (try clear HO_9); (try clear HO_10); (try clear HO_z11000); (try clear HO_z11001); (try clear HO_z33000); (try clear HO_z33001); (try clear BKz10); (try clear BKz32); (try clear HB)
 generalize ((wc.setCell ⟨gbz10, 0, none⟩ (.slice Ao43 tz25.length co43)).setCell ⟨gbz10, 1, none⟩ (.slice Ao45 tz28.length co45)) = w66 at n0_ n1_ n2_ n3_ n4_ n5_ n6_ n7_ n8_ ⊢
 have HO_9 := n0_; have HO_10 := n1_; have HO_z11000 := n2_; have HO_z11001 := n3_; have HO_z33000 := n4_; have HO_z33001 := n5_; have BKz10 := n6_; have BKz32 := n7_; have HB := n8_; clear n0_ n1_ n2_ n3_ n4_ n5_ n6_ n7_ n8_
 have n0_ := am (Kd.R_drew HO_9.out)
 have n1_ := am (Kd.R_drew HO_10.out)
 have n2_ := am (Kd.R_drew HO_z11000.out)
 have n3_ := am (Kd.R_drew HO_z11001.out)
 have n4_ := am (Kd.R_drew HO_z33000.out)
 have n5_ := am (Kd.R_drew HO_z33001.out)
 have n6_ := am (blk_drew BKz10.out)
 have n7_ := am (blk_drew BKz32.out)
 have n8_ := am (below_drew1 HB.out)
 clear HO_9 HO_10 HO_z11000 HO_z11001 HO_z33000 HO_z33001 BKz10 BKz32 HB; have HO_9 := n0_; have HO_10 := n1_; have HO_z11000 := n2_; have HO_z11001 := n3_; have HO_z33000 := n4_; have HO_z33001 := n5_; have BKz10 := n6_; have BKz32 := n7_; have HB := n8_; clear n0_ n1_ n2_ n3_ n4_ n5_ n6_ n7_ n8_
 have pz35 : 0 ≤ (x12_2 : Int) := of_decide_eq_true (by first | (with_reducible assumption) | assumption)
 have qz35 : x12_2 < (tz11.length : Int) := of_decide_eq_true (by first | (with_reducible assumption) | assumption)
 obtain ⟨adz35, ez35, hxz35_0, hxz35_1, hxz35_2⟩ := at_T24 (Kd.R_reads' HO_9.out).2.2 x12_2 pz35 qz35
 (try rw [← Nbq55.out] at hxz35_0)
 obtain rfl : adz21 = adz35 := (by injection ez35)
 replace pz35 := eq_true pz35
 replace qz35 := eq_true qz35
 have pz36 : 0 ≤ (x12_2 : Int) := of_decide_eq_true (by first | (with_reducible assumption) | assumption)
 have qz36 : x12_2 < (tz11.length : Int) := of_decide_eq_true (by first | (with_reducible assumption) | assumption)
 obtain ⟨adz36, ez36, hxz36_0, hxz36_1, hxz36_2⟩ := at_T24 (Kd.R_reads' HO_9.out).2.2 x12_2 pz36 qz36
 (try rw [← Nbq55.out] at hxz36_0)
 obtain rfl : adz21 = adz36 := (by injection ez36)
 replace pz36 := eq_true pz36
 replace qz36 := eq_true qz36
 have p62 : 0 ≤ (((rd_T24 tz11 x12_2).f1) : Int) := of_decide_eq_true (by first | (with_reducible assumption) | assumption)
 have q62 : (((rd_T24 tz11 x12_2).f1) : Int) < ((x10_2.length : Int) : Int) := of_decide_eq_true (by first | (with_reducible assumption) | assumption)
 obtain ⟨go62, co62, eo62, gb62, gl62, cl62, HG62⟩ := Kd.R_form HO_10.out (by omega)
 (first | cases eo62 | (injection eo62 with ea_ en_ ec_; (first | subst ea_ | (injection ea_ with ea_; subst ea_)); subst ec_; clear en_))
 have GB62 := Aside0.mk gb62
 have GG62 := am HG62
 clear gb62 gl62 HG62
 obtain ⟨hx62_0, hf62_0⟩ := Kd.R_celln (⟨#[]⟩ : ByteArray) HO_10.out (((rd_T24 tz11 x12_2).f1) : Int) p62 q62
 replace p62 := eq_true p62
 replace q62 := eq_true q62
 have HP68 := Kd.R_putn HO_10.out (((rd_T24 tz11 x12_2).f1) : Int) ((rd_T24 tz11 x12_2).f2)
 rw [← Nyz37.out] at HP68
 have HQ68 := am HP68
 clear HP68
 refine start_ (n := 13) (S := fun w' => w'.cell? (adz21.add ((x12_2).toNat * 3)) = some (.bool (false)) ∧ w'.cell? ⟨(adz21.add ((x12_2).toNat * 3)).block, (adz21.add ((x12_2).toNat * 3)).off + 1, none⟩ = some (.int .i64 ((rd_T24 tz11 x12_2).f1)) ∧ w'.cell? ⟨(adz21.add ((x12_2).toNat * 3)).block, (adz21.add ((x12_2).toNat * 3)).off + 2, none⟩ = some (.string ((rd_T24 tz11 x12_2).f2)) ∧ w'.cell? (adz21.add ((x12_2).toNat * 3)) = some (.bool (false)) ∧ w'.cell? ⟨(adz21.add ((x12_2).toNat * 3)).block, (adz21.add ((x12_2).toNat * 3)).off + 1, none⟩ = some (.int .i64 ((rd_T24 tz11 x12_2).f1)) ∧ w'.cell? ⟨(adz21.add ((x12_2).toNat * 3)).block, (adz21.add ((x12_2).toNat * 3)).off + 2, none⟩ = some (.string ((rd_T24 tz11 x12_2).f2))) (ds := [12]) #[false, false, false, false, false, false, false, false, false, false, false, false, false] (by kernel_rfl) rfl rfl ⟨hxz35_0, hxz35_1, hxz35_2, hxz36_0, hxz36_1, hxz36_2⟩ (fun hHeld => ?_); refine with_tabW columbariumlaw14_DiskLast.tab18 columbariumlaw14_DiskLast.bits18 (fun HT_ HW_ => ?_)
 generalize w66.drew = w67 at HO_9 HO_10 HO_z11000 HO_z11001 HO_z33000 HO_z33001 BKz10 BKz32 HB GG62 HQ68 hf62_0 hxz35_0 hxz35_1 hxz35_2 hxz36_0 hxz36_1 hxz36_2 hx62_0 hHeld ⊢
 refine pu_ 0 (some 76) HT_ rfl rfl (.inl ⟨by rfl, by intro w'; go_simp; with_reducible rfl⟩) (by simp only [Act.put, sa_, s0_, s1_, i64_w, i32_w]; rfl) ?_
 refine pu_ 1 (some 77) HT_ rfl rfl (.inl ⟨by rfl, by intro w'; go_simp; with_reducible rfl⟩) (by simp only [Act.put, sa_, s0_, s1_, i64_w, i32_w]; rfl) ?_
 refine pu_ 2 (some 78) HT_ rfl rfl (.inl ⟨by rfl, by intro w'; go_simp; with_reducible rfl⟩) (by simp only [Act.put, sa_, s0_, s1_, i64_w, i32_w]; rfl) ?_
 refine pu_ 3 (some 79) HT_ rfl rfl (.inl ⟨by rfl, by intro w'; go_simp; with_reducible rfl⟩) (by simp only [Act.put, sa_, s0_, s1_, i64_w, i32_w]; rfl) ?_
 refine pu_ 4 (some 80) HT_ rfl rfl (.inl ⟨by rfl, by intro w'; go_simp; with_reducible rfl⟩) (by simp only [Act.put, sa_, s0_, s1_, i64_w, i32_w]; rfl) ?_
 refine pu_ 6 (some 82) HT_ rfl rfl (.inl ⟨by rfl, by intro w'; go_simp; with_reducible rfl⟩) (by simp only [Act.put, sa_, s0_, s1_, i64_w, i32_w]; rfl) ?_
 refine pu_ 7 (some 83) HT_ rfl rfl (.inl ⟨by rfl, by intro w'; go_simp; with_reducible rfl⟩) (by simp only [Act.put, sa_, s0_, s1_, i64_w, i32_w]; rfl) ?_
 refine pu_ 8 (some 84) HT_ rfl rfl (.inl ⟨by rfl, by intro w'; go_simp; with_reducible rfl⟩) (by simp only [Act.put, sa_, s0_, s1_, i64_w, i32_w]; rfl) ?_
 refine pu_ 9 (some 85) HT_ rfl rfl (.inl ⟨by rfl, by intro w'; go_simp; with_reducible rfl⟩) (by simp only [Act.put, sa_, s0_, s1_, i64_w, i32_w]; rfl) ?_
 refine tk_ 5 (some 81) HT_ HW_ rfl rfl (.inl ⟨by rfl, by rintro w' ⟨s0, s1, s2, s3, s4, s5⟩; go_simp; with_reducible rfl⟩) hHeld (by simp only [Act.put, sa_, s0_, s1_, i64_w, i32_w]; rfl) ?_
 refine tk_ 10 (some 86) HT_ HW_ rfl rfl (.inl ⟨by rfl, by rintro w' ⟨s0, s1, s2, s3, s4, s5⟩; go_simp; with_reducible rfl⟩) hHeld (by simp only [Act.put, sa_, s0_, s1_, i64_w, i32_w]; rfl) ?_
 refine pu_ 11 (some 87) HT_ rfl rfl (.inl ⟨by rfl, by intro w'; go_simp; with_reducible rfl⟩) (by simp only [Act.put, sa_, s0_, s1_, i64_w, i32_w]; rfl) ?_
 refine la_ 12 none HT_ rfl rfl (fun K hK => ?_)
 refine skip_ (by rfl) rfl (by go_simp; rfl) ?_
 refine hK.out _ _ ?_
 clear hK K
 refine done_ (done_of HT_.out (by kernel_rfl)) ?_
 try go_wp2
 go_roundg kj31
 case measure => have := HK1.out; have := HK2.out; have := HJ31.out; omega
 case rel => exact ⟨(yz37), (wrap64 (x12_2 + 1)), (tz25), (tz28), (.slice Ao43 tz25.length co43), (.slice Ao45 tz28.length co45), (by first | rfl | (simp; done) | (simp [*]; done)), H', ⟨by have := HK1.out; have := HK2.out; have := HJ31.out; omega⟩, ⟨by (with_reducible repeat first | apply ra | apply rn | apply rd); exact Kd.R_mono (Kd.R_far (p := ⟨go62, (((rd_T24 tz11 x12_2).f1) : Int).toNat, none⟩) (Kd.R_types HO_9.out GG62.out (by decide)) (fun _ hk => hk.2) (.string ((rd_T24 tz11 x12_2).f2))) (fun _ hk => hk.1.2)⟩, ⟨by (with_reducible repeat first | apply ra | apply rn | apply rd); exact Kd.R_mono HQ68.out (fun _ hk => hk.2)⟩, ⟨by (with_reducible repeat first | apply ra | apply rn | apply rd); exact Kd.R_mono (Kd.R_far (p := ⟨go62, (((rd_T24 tz11 x12_2).f1) : Int).toNat, none⟩) (Kd.R_mono HO_z33000.out (fun k_ hk => (⟨hk, fun e_ => hk.1 (by rw [e_]; rfl)⟩ : _ ∧ k_ ≠ go62))) (fun _ hk => hk.2) (.string ((rd_T24 tz11 x12_2).f2))) (fun _ hk => hk.1.1)⟩, ⟨by (with_reducible repeat first | apply ra | apply rn | apply rd); exact Kd.R_mono (Kd.R_far (p := ⟨go62, (((rd_T24 tz11 x12_2).f1) : Int).toNat, none⟩) (Kd.R_types HO_z33001.out GG62.out (by decide)) (fun _ hk => hk.2) (.string ((rd_T24 tz11 x12_2).f2))) (fun _ hk => hk.1.1)⟩, ⟨by (with_reducible repeat (first | refine blk_drewN ?_ _ | refine blk_drew ?_ | refine blk_alloc ?_ _)); refine blk_far ?_ (by have h_ := Kd.R_ne HO_10.out BKz10.out (by decide); intro e_; exact h_ (by rw [e_]; rfl)) _; (with_reducible repeat (first | refine blk_drewN ?_ _ | refine blk_drew ?_ | refine blk_alloc ?_ _)); exact BKz10.out⟩, ⟨by repeat (first | (with_reducible first | exact HB.out | apply below_alloc | apply pw_below_drewN | apply below_drew1 | refine below_set ?_ GB62.out | refine below_set ?_ GEz10.out | refine below_set ?_ GEz32.out) | exact HB.out)⟩⟩

end Go.Proofs.Ytcfinlmocgbnbaa.Pr
