-- Written by wip/tools/xprint.py, a patched run of the kit's print: not typed by hand.
import Derived.Test.YtcfinlmocgbnbaaXSq
import Derived.Test.YtcfinlmocgbnbaaPr0
import Derived.Test.YtcfinlmocgbnbaaPrFcolumbariumlaw14Moves
import Derived.Test.YtcfinlmocgbnbaaPrFcolumbariumlaw14awake
import Derived.Test.YtcfinlmocgbnbaaPrFcolumbariumlaw14pick
import Derived.Test.YtcfinlmocgbnbaaXCrash
import Derived.Test.YtcfinlmocgbnbaaXDo
import Derived.Test.YtcfinlmocgbnbaaXNew
import Derived.Test.YtcfinlmocgbnbaaXRead
namespace Go.Proofs.Ytcfinlmocgbnbaa.Pr
open Go.Proofs.Ytcfinlmocgbnbaa.Sq Go.RowKit Go.Proofs.YtcfinlmocgbnbaaW.PrintWords Go.Proofs.YtcfinlmocgbnbaaW.PrintLast Go.Proofs.YtcfinlmocgbnbaaW.PrintMore
attribute [local go_sem] max2_int min2_int max_two min_two max_three min_three max_four min_four   -- for this text's walks alone
set_option linter.unusedVariables false
set_option linter.unusedSimpArgs false

/-! ### columbariumlaw14_DiskBlocks: function 6 -/
mutual
def columbariumlaw14_DiskBlocks.l0 : Nat → List Int → Bool → Int → Int → List (S24) → List (S24) → List Int → Int → Int → List ByteArray → List (S24) → Option (Bool)
 | 0, _, _, _, _, _, _, _, _, _, _, _ => none
 | k + 1, x2, x7, x9, x10, x11, x12, x13, x14, x15, xz10000, xz10001 => if x15 < (x11.length : Int) then (if 0 ≤ x15 then (if (rd_T24 x11 x15).f0 = true then (columbariumlaw14_DiskBlocks.j1 k x2 x7 x9 x10 x11 x12 ([] : List Int) 0 x15 xz10000 xz10001) else (columbariumlaw14_DiskBlocks.j1 k x2 x7 x9 x10 x11 x12 x13 x14 x15 xz10000 xz10001)) else (none)) else ((disk_Do.f xz10000 xz10001 x11).bind fun btz31 => ((disk_Do.f xz10000 xz10001 x12).bind fun btz39 => ((disk_Crash.f btz31.1 btz31.2.1 x2).bind fun btz47 => ((disk_Crash.f btz39.1 btz39.2.1 x13).bind fun btz55 => (if x9 = 0 then (if btz31.2.2 = 0 then (if btz39.2.2 = 0 then (if btz47.2.2 = 0 then (if btz55.2.2 = 0 then (if (btz47.1.length : Int) = 6 then (columbariumlaw14_DiskBlocks.j5 k x7 x10 ((btz55.1.length : Int) != 6) btz31.1 btz31.2.1 btz39.1 btz39.2.1 btz47.1 btz47.2.1 btz55.1 btz55.2.1) else (columbariumlaw14_DiskBlocks.j5 k x7 x10 true btz31.1 btz31.2.1 btz39.1 btz39.2.1 btz47.1 btz47.2.1 btz55.1 btz55.2.1)) else (columbariumlaw14_DiskBlocks.j5 k x7 x10 true btz31.1 btz31.2.1 btz39.1 btz39.2.1 btz47.1 btz47.2.1 btz55.1 btz55.2.1)) else (columbariumlaw14_DiskBlocks.j5 k x7 x10 true btz31.1 btz31.2.1 btz39.1 btz39.2.1 btz47.1 btz47.2.1 btz55.1 btz55.2.1)) else (columbariumlaw14_DiskBlocks.j5 k x7 x10 true btz31.1 btz31.2.1 btz39.1 btz39.2.1 btz47.1 btz47.2.1 btz55.1 btz55.2.1)) else (columbariumlaw14_DiskBlocks.j5 k x7 x10 true btz31.1 btz31.2.1 btz39.1 btz39.2.1 btz47.1 btz47.2.1 btz55.1 btz55.2.1)) else (columbariumlaw14_DiskBlocks.j5 k x7 x10 true btz31.1 btz31.2.1 btz39.1 btz39.2.1 btz47.1 btz47.2.1 btz55.1 btz55.2.1))))))
def columbariumlaw14_DiskBlocks.j1 : Nat → List Int → Bool → Int → Int → List (S24) → List (S24) → List Int → Int → Int → List ByteArray → List (S24) → Option (Bool)
 | 0, _, _, _, _, _, _, _, _, _, _, _ => none
 | k + 1, x2, x7, x9, x10, x11, x12, x13, x14, x15, xz10000, xz10001 => if 0 ≤ x15 then (if x15 < (x11.length : Int) then (if (rd_T24 x11 x15).f0 = true then (columbariumlaw14_DiskBlocks.j2 k x2 x7 x9 x10 x11 x12 x13 x14 x15 true xz10000 xz10001) else (columbariumlaw14_DiskBlocks.j2 k x2 x7 x9 x10 x11 x12 x13 x14 x15 (((rd_T24 x11 x15).f1) != x10) xz10000 xz10001)) else (none)) else (none)
def columbariumlaw14_DiskBlocks.j2 : Nat → List Int → Bool → Int → Int → List (S24) → List (S24) → List Int → Int → Int → Bool → List ByteArray → List (S24) → Option (Bool)
 | 0, _, _, _, _, _, _, _, _, _, _, _, _ => none
 | k + 1, x2, x7, x9, x10, x11, x12, x13, x14, x15, x62, xz10000, xz10001 => if x62 = true then (if 0 ≤ x15 then (if x15 < (x11.length : Int) then (if x12.length < 4398046511104 then (columbariumlaw14_DiskBlocks.j3 k x2 x7 x9 x10 x11 (x12 ++ [(⟨(rd_T24 x11 x15).f0, (rd_T24 x11 x15).f1, (rd_T24 x11 x15).f2⟩ : S24)]) x13 x14 x15 xz10000 xz10001) else (none)) else (none)) else (none)) else (columbariumlaw14_DiskBlocks.j3 k x2 x7 x9 x10 x11 x12 x13 x14 x15 xz10000 xz10001)
def columbariumlaw14_DiskBlocks.j3 : Nat → List Int → Bool → Int → Int → List (S24) → List (S24) → List Int → Int → Int → List ByteArray → List (S24) → Option (Bool)
 | 0, _, _, _, _, _, _, _, _, _, _, _ => none
 | k + 1, x2, x7, x9, x10, x11, x12, x13, x14, x15, xz10000, xz10001 => if 0 ≤ x15 then (if x15 < (x11.length : Int) then (if ((rd_T24 x11 x15).f0 = true) then (columbariumlaw14_DiskBlocks.l0 k x2 x7 x9 x10 x11 x12 x13 x14 (wrap64 (x15 + 1)) xz10000 xz10001) else (if ((rd_T24 x11 x15).f1) = x10 then (columbariumlaw14_DiskBlocks.j4 k x2 x7 x9 x10 x11 x12 x13 x14 x15 false xz10000 xz10001) else (columbariumlaw14_DiskBlocks.j4 k x2 x7 x9 x10 x11 x12 x13 x14 x15 (decide (x14 < (x2.length : Int))) xz10000 xz10001))) else (none)) else (none)
def columbariumlaw14_DiskBlocks.j4 : Nat → List Int → Bool → Int → Int → List (S24) → List (S24) → List Int → Int → Int → Bool → List ByteArray → List (S24) → Option (Bool)
 | 0, _, _, _, _, _, _, _, _, _, _, _, _ => none
 | k + 1, x2, x7, x9, x10, x11, x12, x13, x14, x15, x88, xz10000, xz10001 => if x88 = true then (if 0 ≤ x14 then (if x14 < (x2.length : Int) then (if x13.length < 17592186044416 then (columbariumlaw14_DiskBlocks.l0 k x2 x7 x9 x10 x11 x12 (x13 ++ [rd x2 x14]) (wrap64 (x14 + 1)) (wrap64 (x15 + 1)) xz10000 xz10001) else (none)) else (none)) else (none)) else (if 0 ≤ x15 then (if x15 < (x11.length : Int) then (if ((rd_T24 x11 x15).f1) = x10 then (columbariumlaw14_DiskBlocks.l0 k x2 x7 x9 x10 x11 x12 x13 (wrap64 (x14 + 1)) (wrap64 (x15 + 1)) xz10000 xz10001) else (if x13.length < 17592186044416 then (columbariumlaw14_DiskBlocks.l0 k x2 x7 x9 x10 x11 x12 (x13 ++ [0]) (wrap64 (x14 + 1)) (wrap64 (x15 + 1)) xz10000 xz10001) else (none))) else (none)) else (none))
def columbariumlaw14_DiskBlocks.j5 : Nat → Bool → Int → Bool → List ByteArray → List (S24) → List ByteArray → List (S24) → List ByteArray → List (S24) → List ByteArray → List (S24) → Option (Bool)
 | 0, _, _, _, _, _, _, _, _, _, _, _ => none
 | k + 1, x7, x10, x161, xz39000, xz39001, xz47000, xz47001, xz55000, xz55001, xz63000, xz63001 => if x161 = true then (none) else (columbariumlaw14_DiskBlocks.l1 k x7 x10 0 xz39000 xz39001 xz47000 xz47001 xz55000 xz55001 xz63000 xz63001)
def columbariumlaw14_DiskBlocks.l1 : Nat → Bool → Int → Int → List ByteArray → List (S24) → List ByteArray → List (S24) → List ByteArray → List (S24) → List ByteArray → List (S24) → Option (Bool)
 | 0, _, _, _, _, _, _, _, _, _, _, _ => none
 | k + 1, x7, x10, x24, xz39000, xz39001, xz47000, xz47001, xz55000, xz55001, xz63000, xz63001 => if x24 < 6 then ((disk_Read.f xz39000 xz39001 x24).bind fun btz63 => ((disk_Read.f xz47000 xz47001 x24).bind fun btz65 => (if btz63.2 = 0 then (if btz65.2 = 0 then (if x24 = x10 then (columbariumlaw14_DiskBlocks.l1 k x7 x10 (wrap64 (x24 + 1)) xz39000 xz39001 xz47000 xz47001 xz55000 xz55001 xz63000 xz63001) else (if btz63.1.toList = btz65.1.toList then (if 0 ≤ x24 then (if x24 < (xz55000.length : Int) then (if x24 < (xz63000.length : Int) then (if (rdOf ByteArray.empty xz55000 x24).toList = (rdOf ByteArray.empty xz63000 x24).toList then (columbariumlaw14_DiskBlocks.l1 k x7 x10 (wrap64 (x24 + 1)) xz39000 xz39001 xz47000 xz47001 xz55000 xz55001 xz63000 xz63001) else (none)) else (none)) else (none)) else (none)) else (none))) else (none)) else (none)))) else (some x7)
end
def columbariumlaw14_DiskBlocks.f (k : Nat) (l0 : List (S67)) (a1 : Int) (l2 : List Int) : Option (Bool) := (columbariumlaw14_awake.f k).bind fun tz1 => ((disk_New.f 6).bind fun btz2 => ((columbariumlaw14_pick.f a1 6).bind fun tz10 => ((columbariumlaw14_Moves.f k l0 6).bind fun tz11 => (columbariumlaw14_DiskBlocks.l0 k l2 tz1 btz2.2.2 tz10 tz11 ([] : List (S24)) ([] : List Int) 0 0 btz2.1 btz2.2.1))))
theorem columbariumlaw14_DiskBlocks.mono_l : ∀ k, (∀ y0 y1 y2 y3 y4 y5 y6 y7 y8 y9 y10, LeO (columbariumlaw14_DiskBlocks.l0 k y0 y1 y2 y3 y4 y5 y6 y7 y8 y9 y10) (columbariumlaw14_DiskBlocks.l0 (k + 1) y0 y1 y2 y3 y4 y5 y6 y7 y8 y9 y10)) ∧ (∀ y0 y1 y2 y3 y4 y5 y6 y7 y8 y9 y10, LeO (columbariumlaw14_DiskBlocks.j1 k y0 y1 y2 y3 y4 y5 y6 y7 y8 y9 y10) (columbariumlaw14_DiskBlocks.j1 (k + 1) y0 y1 y2 y3 y4 y5 y6 y7 y8 y9 y10)) ∧ (∀ y0 y1 y2 y3 y4 y5 y6 y7 y8 y9 y10 y11, LeO (columbariumlaw14_DiskBlocks.j2 k y0 y1 y2 y3 y4 y5 y6 y7 y8 y9 y10 y11) (columbariumlaw14_DiskBlocks.j2 (k + 1) y0 y1 y2 y3 y4 y5 y6 y7 y8 y9 y10 y11)) ∧ (∀ y0 y1 y2 y3 y4 y5 y6 y7 y8 y9 y10, LeO (columbariumlaw14_DiskBlocks.j3 k y0 y1 y2 y3 y4 y5 y6 y7 y8 y9 y10) (columbariumlaw14_DiskBlocks.j3 (k + 1) y0 y1 y2 y3 y4 y5 y6 y7 y8 y9 y10)) ∧ (∀ y0 y1 y2 y3 y4 y5 y6 y7 y8 y9 y10 y11, LeO (columbariumlaw14_DiskBlocks.j4 k y0 y1 y2 y3 y4 y5 y6 y7 y8 y9 y10 y11) (columbariumlaw14_DiskBlocks.j4 (k + 1) y0 y1 y2 y3 y4 y5 y6 y7 y8 y9 y10 y11)) ∧ (∀ y0 y1 y2 y3 y4 y5 y6 y7 y8 y9 y10, LeO (columbariumlaw14_DiskBlocks.j5 k y0 y1 y2 y3 y4 y5 y6 y7 y8 y9 y10) (columbariumlaw14_DiskBlocks.j5 (k + 1) y0 y1 y2 y3 y4 y5 y6 y7 y8 y9 y10)) ∧ (∀ y0 y1 y2 y3 y4 y5 y6 y7 y8 y9 y10, LeO (columbariumlaw14_DiskBlocks.l1 k y0 y1 y2 y3 y4 y5 y6 y7 y8 y9 y10) (columbariumlaw14_DiskBlocks.l1 (k + 1) y0 y1 y2 y3 y4 y5 y6 y7 y8 y9 y10))
 | 0 => ⟨fun _ _ _ _ _ _ _ _ _ _ _ r h => by simp [columbariumlaw14_DiskBlocks.l0] at h, fun _ _ _ _ _ _ _ _ _ _ _ r h => by simp [columbariumlaw14_DiskBlocks.j1] at h, fun _ _ _ _ _ _ _ _ _ _ _ _ r h => by simp [columbariumlaw14_DiskBlocks.j2] at h, fun _ _ _ _ _ _ _ _ _ _ _ r h => by simp [columbariumlaw14_DiskBlocks.j3] at h, fun _ _ _ _ _ _ _ _ _ _ _ _ r h => by simp [columbariumlaw14_DiskBlocks.j4] at h, fun _ _ _ _ _ _ _ _ _ _ _ r h => by simp [columbariumlaw14_DiskBlocks.j5] at h, fun _ _ _ _ _ _ _ _ _ _ _ r h => by simp [columbariumlaw14_DiskBlocks.l1] at h⟩
 | k + 1 => by
  obtain ⟨ih0, ih1, ih2, ih3, ih4, ih5, ih6⟩ := columbariumlaw14_DiskBlocks.mono_l k
  refine ⟨?_, ?_, ?_, ?_, ?_, ?_, ?_⟩
  ·intro y0 y1 y2 y3 y4 y5 y6 y7 y8 y9 y10
   unfold columbariumlaw14_DiskBlocks.l0
   repeat' first
   | (with_reducible exact ih0 _ _ _ _ _ _ _ _ _ _ _)
   | (with_reducible exact ih1 _ _ _ _ _ _ _ _ _ _ _)
   | (with_reducible exact ih2 _ _ _ _ _ _ _ _ _ _ _ _)
   | (with_reducible exact ih3 _ _ _ _ _ _ _ _ _ _ _)
   | (with_reducible exact ih4 _ _ _ _ _ _ _ _ _ _ _ _)
   | (with_reducible exact ih5 _ _ _ _ _ _ _ _ _ _ _)
   | (with_reducible exact ih6 _ _ _ _ _ _ _ _ _ _ _)
   | (with_reducible exact columbariumlaw14_Moves.mono _ _ _)
   | (with_reducible exact columbariumlaw14_awake.mono _)
   | (with_reducible exact LeO.refl _)
   | (with_reducible exact LeO.none _)
   | (with_reducible refine LeO.ite ?_ ?_)
   | (with_reducible refine LeO.bind ?_ (fun _ => ?_))
   | exact ih0 _ _ _ _ _ _ _ _ _ _ _
   | exact ih1 _ _ _ _ _ _ _ _ _ _ _
   | exact ih2 _ _ _ _ _ _ _ _ _ _ _ _
   | exact ih3 _ _ _ _ _ _ _ _ _ _ _
   | exact ih4 _ _ _ _ _ _ _ _ _ _ _ _
   | exact ih5 _ _ _ _ _ _ _ _ _ _ _
   | exact ih6 _ _ _ _ _ _ _ _ _ _ _
   | exact columbariumlaw14_Moves.mono _ _ _
   | exact columbariumlaw14_awake.mono _
   | exact LeO.none _
   | refine LeO.ite ?_ ?_
   | refine LeO.bind ?_ (fun _ => ?_)
  ·intro y0 y1 y2 y3 y4 y5 y6 y7 y8 y9 y10
   unfold columbariumlaw14_DiskBlocks.j1
   repeat' first
   | (with_reducible exact ih0 _ _ _ _ _ _ _ _ _ _ _)
   | (with_reducible exact ih1 _ _ _ _ _ _ _ _ _ _ _)
   | (with_reducible exact ih2 _ _ _ _ _ _ _ _ _ _ _ _)
   | (with_reducible exact ih3 _ _ _ _ _ _ _ _ _ _ _)
   | (with_reducible exact ih4 _ _ _ _ _ _ _ _ _ _ _ _)
   | (with_reducible exact ih5 _ _ _ _ _ _ _ _ _ _ _)
   | (with_reducible exact ih6 _ _ _ _ _ _ _ _ _ _ _)
   | (with_reducible exact columbariumlaw14_Moves.mono _ _ _)
   | (with_reducible exact columbariumlaw14_awake.mono _)
   | (with_reducible exact LeO.refl _)
   | (with_reducible exact LeO.none _)
   | (with_reducible refine LeO.ite ?_ ?_)
   | (with_reducible refine LeO.bind ?_ (fun _ => ?_))
   | exact ih0 _ _ _ _ _ _ _ _ _ _ _
   | exact ih1 _ _ _ _ _ _ _ _ _ _ _
   | exact ih2 _ _ _ _ _ _ _ _ _ _ _ _
   | exact ih3 _ _ _ _ _ _ _ _ _ _ _
   | exact ih4 _ _ _ _ _ _ _ _ _ _ _ _
   | exact ih5 _ _ _ _ _ _ _ _ _ _ _
   | exact ih6 _ _ _ _ _ _ _ _ _ _ _
   | exact columbariumlaw14_Moves.mono _ _ _
   | exact columbariumlaw14_awake.mono _
   | exact LeO.none _
   | refine LeO.ite ?_ ?_
   | refine LeO.bind ?_ (fun _ => ?_)
  ·intro y0 y1 y2 y3 y4 y5 y6 y7 y8 y9 y10 y11
   unfold columbariumlaw14_DiskBlocks.j2
   repeat' first
   | (with_reducible exact ih0 _ _ _ _ _ _ _ _ _ _ _)
   | (with_reducible exact ih1 _ _ _ _ _ _ _ _ _ _ _)
   | (with_reducible exact ih2 _ _ _ _ _ _ _ _ _ _ _ _)
   | (with_reducible exact ih3 _ _ _ _ _ _ _ _ _ _ _)
   | (with_reducible exact ih4 _ _ _ _ _ _ _ _ _ _ _ _)
   | (with_reducible exact ih5 _ _ _ _ _ _ _ _ _ _ _)
   | (with_reducible exact ih6 _ _ _ _ _ _ _ _ _ _ _)
   | (with_reducible exact columbariumlaw14_Moves.mono _ _ _)
   | (with_reducible exact columbariumlaw14_awake.mono _)
   | (with_reducible exact LeO.refl _)
   | (with_reducible exact LeO.none _)
   | (with_reducible refine LeO.ite ?_ ?_)
   | (with_reducible refine LeO.bind ?_ (fun _ => ?_))
   | exact ih0 _ _ _ _ _ _ _ _ _ _ _
   | exact ih1 _ _ _ _ _ _ _ _ _ _ _
   | exact ih2 _ _ _ _ _ _ _ _ _ _ _ _
   | exact ih3 _ _ _ _ _ _ _ _ _ _ _
   | exact ih4 _ _ _ _ _ _ _ _ _ _ _ _
   | exact ih5 _ _ _ _ _ _ _ _ _ _ _
   | exact ih6 _ _ _ _ _ _ _ _ _ _ _
   | exact columbariumlaw14_Moves.mono _ _ _
   | exact columbariumlaw14_awake.mono _
   | exact LeO.none _
   | refine LeO.ite ?_ ?_
   | refine LeO.bind ?_ (fun _ => ?_)
  ·intro y0 y1 y2 y3 y4 y5 y6 y7 y8 y9 y10
   unfold columbariumlaw14_DiskBlocks.j3
   repeat' first
   | (with_reducible exact ih0 _ _ _ _ _ _ _ _ _ _ _)
   | (with_reducible exact ih1 _ _ _ _ _ _ _ _ _ _ _)
   | (with_reducible exact ih2 _ _ _ _ _ _ _ _ _ _ _ _)
   | (with_reducible exact ih3 _ _ _ _ _ _ _ _ _ _ _)
   | (with_reducible exact ih4 _ _ _ _ _ _ _ _ _ _ _ _)
   | (with_reducible exact ih5 _ _ _ _ _ _ _ _ _ _ _)
   | (with_reducible exact ih6 _ _ _ _ _ _ _ _ _ _ _)
   | (with_reducible exact columbariumlaw14_Moves.mono _ _ _)
   | (with_reducible exact columbariumlaw14_awake.mono _)
   | (with_reducible exact LeO.refl _)
   | (with_reducible exact LeO.none _)
   | (with_reducible refine LeO.ite ?_ ?_)
   | (with_reducible refine LeO.bind ?_ (fun _ => ?_))
   | exact ih0 _ _ _ _ _ _ _ _ _ _ _
   | exact ih1 _ _ _ _ _ _ _ _ _ _ _
   | exact ih2 _ _ _ _ _ _ _ _ _ _ _ _
   | exact ih3 _ _ _ _ _ _ _ _ _ _ _
   | exact ih4 _ _ _ _ _ _ _ _ _ _ _ _
   | exact ih5 _ _ _ _ _ _ _ _ _ _ _
   | exact ih6 _ _ _ _ _ _ _ _ _ _ _
   | exact columbariumlaw14_Moves.mono _ _ _
   | exact columbariumlaw14_awake.mono _
   | exact LeO.none _
   | refine LeO.ite ?_ ?_
   | refine LeO.bind ?_ (fun _ => ?_)
  ·intro y0 y1 y2 y3 y4 y5 y6 y7 y8 y9 y10 y11
   unfold columbariumlaw14_DiskBlocks.j4
   repeat' first
   | (with_reducible exact ih0 _ _ _ _ _ _ _ _ _ _ _)
   | (with_reducible exact ih1 _ _ _ _ _ _ _ _ _ _ _)
   | (with_reducible exact ih2 _ _ _ _ _ _ _ _ _ _ _ _)
   | (with_reducible exact ih3 _ _ _ _ _ _ _ _ _ _ _)
   | (with_reducible exact ih4 _ _ _ _ _ _ _ _ _ _ _ _)
   | (with_reducible exact ih5 _ _ _ _ _ _ _ _ _ _ _)
   | (with_reducible exact ih6 _ _ _ _ _ _ _ _ _ _ _)
   | (with_reducible exact columbariumlaw14_Moves.mono _ _ _)
   | (with_reducible exact columbariumlaw14_awake.mono _)
   | (with_reducible exact LeO.refl _)
   | (with_reducible exact LeO.none _)
   | (with_reducible refine LeO.ite ?_ ?_)
   | (with_reducible refine LeO.bind ?_ (fun _ => ?_))
   | exact ih0 _ _ _ _ _ _ _ _ _ _ _
   | exact ih1 _ _ _ _ _ _ _ _ _ _ _
   | exact ih2 _ _ _ _ _ _ _ _ _ _ _ _
   | exact ih3 _ _ _ _ _ _ _ _ _ _ _
   | exact ih4 _ _ _ _ _ _ _ _ _ _ _ _
   | exact ih5 _ _ _ _ _ _ _ _ _ _ _
   | exact ih6 _ _ _ _ _ _ _ _ _ _ _
   | exact columbariumlaw14_Moves.mono _ _ _
   | exact columbariumlaw14_awake.mono _
   | exact LeO.none _
   | refine LeO.ite ?_ ?_
   | refine LeO.bind ?_ (fun _ => ?_)
  ·intro y0 y1 y2 y3 y4 y5 y6 y7 y8 y9 y10
   unfold columbariumlaw14_DiskBlocks.j5
   repeat' first
   | (with_reducible exact ih0 _ _ _ _ _ _ _ _ _ _ _)
   | (with_reducible exact ih1 _ _ _ _ _ _ _ _ _ _ _)
   | (with_reducible exact ih2 _ _ _ _ _ _ _ _ _ _ _ _)
   | (with_reducible exact ih3 _ _ _ _ _ _ _ _ _ _ _)
   | (with_reducible exact ih4 _ _ _ _ _ _ _ _ _ _ _ _)
   | (with_reducible exact ih5 _ _ _ _ _ _ _ _ _ _ _)
   | (with_reducible exact ih6 _ _ _ _ _ _ _ _ _ _ _)
   | (with_reducible exact columbariumlaw14_Moves.mono _ _ _)
   | (with_reducible exact columbariumlaw14_awake.mono _)
   | (with_reducible exact LeO.refl _)
   | (with_reducible exact LeO.none _)
   | (with_reducible refine LeO.ite ?_ ?_)
   | (with_reducible refine LeO.bind ?_ (fun _ => ?_))
   | exact ih0 _ _ _ _ _ _ _ _ _ _ _
   | exact ih1 _ _ _ _ _ _ _ _ _ _ _
   | exact ih2 _ _ _ _ _ _ _ _ _ _ _ _
   | exact ih3 _ _ _ _ _ _ _ _ _ _ _
   | exact ih4 _ _ _ _ _ _ _ _ _ _ _ _
   | exact ih5 _ _ _ _ _ _ _ _ _ _ _
   | exact ih6 _ _ _ _ _ _ _ _ _ _ _
   | exact columbariumlaw14_Moves.mono _ _ _
   | exact columbariumlaw14_awake.mono _
   | exact LeO.none _
   | refine LeO.ite ?_ ?_
   | refine LeO.bind ?_ (fun _ => ?_)
  ·intro y0 y1 y2 y3 y4 y5 y6 y7 y8 y9 y10
   unfold columbariumlaw14_DiskBlocks.l1
   repeat' first
   | (with_reducible exact ih0 _ _ _ _ _ _ _ _ _ _ _)
   | (with_reducible exact ih1 _ _ _ _ _ _ _ _ _ _ _)
   | (with_reducible exact ih2 _ _ _ _ _ _ _ _ _ _ _ _)
   | (with_reducible exact ih3 _ _ _ _ _ _ _ _ _ _ _)
   | (with_reducible exact ih4 _ _ _ _ _ _ _ _ _ _ _ _)
   | (with_reducible exact ih5 _ _ _ _ _ _ _ _ _ _ _)
   | (with_reducible exact ih6 _ _ _ _ _ _ _ _ _ _ _)
   | (with_reducible exact columbariumlaw14_Moves.mono _ _ _)
   | (with_reducible exact columbariumlaw14_awake.mono _)
   | (with_reducible exact LeO.refl _)
   | (with_reducible exact LeO.none _)
   | (with_reducible refine LeO.ite ?_ ?_)
   | (with_reducible refine LeO.bind ?_ (fun _ => ?_))
   | exact ih0 _ _ _ _ _ _ _ _ _ _ _
   | exact ih1 _ _ _ _ _ _ _ _ _ _ _
   | exact ih2 _ _ _ _ _ _ _ _ _ _ _ _
   | exact ih3 _ _ _ _ _ _ _ _ _ _ _
   | exact ih4 _ _ _ _ _ _ _ _ _ _ _ _
   | exact ih5 _ _ _ _ _ _ _ _ _ _ _
   | exact ih6 _ _ _ _ _ _ _ _ _ _ _
   | exact columbariumlaw14_Moves.mono _ _ _
   | exact columbariumlaw14_awake.mono _
   | exact LeO.none _
   | refine LeO.ite ?_ ?_
   | refine LeO.bind ?_ (fun _ => ?_)
theorem columbariumlaw14_DiskBlocks.mono : ∀ a0 a1 a2 k, LeO (columbariumlaw14_DiskBlocks.f k a0 a1 a2) (columbariumlaw14_DiskBlocks.f (k + 1) a0 a1 a2) := by
 intro a0 a1 a2 k
 obtain ⟨ih0, ih1, ih2, ih3, ih4, ih5, ih6⟩ := columbariumlaw14_DiskBlocks.mono_l k
 unfold columbariumlaw14_DiskBlocks.f
 repeat' first
  | (with_reducible exact ih0 _ _ _ _ _ _ _ _ _ _ _)
  | (with_reducible exact ih1 _ _ _ _ _ _ _ _ _ _ _)
  | (with_reducible exact ih2 _ _ _ _ _ _ _ _ _ _ _ _)
  | (with_reducible exact ih3 _ _ _ _ _ _ _ _ _ _ _)
  | (with_reducible exact ih4 _ _ _ _ _ _ _ _ _ _ _ _)
  | (with_reducible exact ih5 _ _ _ _ _ _ _ _ _ _ _)
  | (with_reducible exact ih6 _ _ _ _ _ _ _ _ _ _ _)
  | (with_reducible exact columbariumlaw14_Moves.mono _ _ _)
  | (with_reducible exact columbariumlaw14_awake.mono _)
  | (with_reducible exact LeO.refl _)
  | (with_reducible exact LeO.none _)
  | (with_reducible refine LeO.ite ?_ ?_)
  | (with_reducible refine LeO.bind ?_ (fun _ => ?_))
  | exact ih0 _ _ _ _ _ _ _ _ _ _ _
  | exact ih1 _ _ _ _ _ _ _ _ _ _ _
  | exact ih2 _ _ _ _ _ _ _ _ _ _ _ _
  | exact ih3 _ _ _ _ _ _ _ _ _ _ _
  | exact ih4 _ _ _ _ _ _ _ _ _ _ _ _
  | exact ih5 _ _ _ _ _ _ _ _ _ _ _
  | exact ih6 _ _ _ _ _ _ _ _ _ _ _
  | exact columbariumlaw14_Moves.mono _ _ _
  | exact columbariumlaw14_awake.mono _
  | exact LeO.none _
  | refine LeO.ite ?_ ?_
  | refine LeO.bind ?_ (fun _ => ?_)
set_option maxHeartbeats 8000000 in
set_option maxRecDepth 100000 in
theorem columbariumlaw14_DiskBlocks.calls (k : Nat) (A0 : Option Addr) (c0 : Nat) (l0 : List (S67)) (a1 : Int) (A2 : Option Addr) (c2 : Nat) (l2 : List Int) (r : Bool) (w : World) (hr0 : Kd.C k67 w A0 l0.length l0) (hc0 : l0.length ≤ c0) (hr2 : Kd.C (Kd.int .i64) w A2 l2.length l2) (hc2 : l2.length ≤ c2) (h : columbariumlaw14_DiskBlocks.f k l0 a1 l2 = some r) :
  Calls Try.prog 6 #[.slice A0 l0.length c0, .int .i64 a1, .slice A2 l2.length c2] w fun e w' => e = .returned (.bool r) ∧ Below w.heap.size w w' := by
 have hu30 := Try.underlying30
 have hu24 := Try.underlying24
 have HR0 := am hr0
 have HC0 := am hc0
 clear hr0 hc0
 have HR2 := am hr2
 have HC2 := am hc2
 clear hr2 hc2
 have HB := am (Below.refl w.heap.size w)
 have H : ((columbariumlaw14_awake.f k).bind fun tz1 => ((disk_New.f 6).bind fun btz2 => ((columbariumlaw14_pick.f a1 6).bind fun tz10 => ((columbariumlaw14_Moves.f k l0 6).bind fun tz11 => (columbariumlaw14_DiskBlocks.l0 k l2 tz1 btz2.2.2 tz10 tz11 ([] : List (S24)) ([] : List Int) 0 0 btz2.1 btz2.2.1))))) = some r := h
 clear h
 replace H := ob_ H
 obtain ⟨tz1, A40, H⟩ := H
 replace H : ((disk_New.f 6).bind fun btz2 => ((columbariumlaw14_pick.f a1 6).bind fun tz10 => ((columbariumlaw14_Moves.f k l0 6).bind fun tz11 => (columbariumlaw14_DiskBlocks.l0 k l2 tz1 btz2.2.2 tz10 tz11 ([] : List (S24)) ([] : List Int) 0 0 btz2.1 btz2.2.1)))) = some r := H
 have A4 := Aside0.mk A40
 clear A40
 replace H := ob_ H
 obtain ⟨⟨tz2, tz5, tz8⟩, A50, H⟩ := H
 replace H : ((columbariumlaw14_pick.f a1 6).bind fun tz10 => ((columbariumlaw14_Moves.f k l0 6).bind fun tz11 => (columbariumlaw14_DiskBlocks.l0 k l2 tz1 tz8 tz10 tz11 ([] : List (S24)) ([] : List Int) 0 0 tz2 tz5))) = some r := H
 have A5 := Aside0.mk A50
 clear A50
 replace H := ob_ H
 obtain ⟨tz10, A60, H⟩ := H
 replace H : ((columbariumlaw14_Moves.f k l0 6).bind fun tz11 => (columbariumlaw14_DiskBlocks.l0 k l2 tz1 tz8 tz10 tz11 ([] : List (S24)) ([] : List Int) 0 0 tz2 tz5)) = some r := H
 have A6 := Aside0.mk A60
 clear A60
 replace H := ob_ H
 obtain ⟨tz11, A70, H⟩ := H
 replace H : (columbariumlaw14_DiskBlocks.l0 k l2 tz1 tz8 tz10 tz11 ([] : List (S24)) ([] : List Int) 0 0 tz2 tz5) = some r := H
 have A7 := Aside0.mk A70
 clear A70
 have H' := am H
 clear H
 go_enter Try.func6, Try.ntmps6
 go_wp2_with (first | (go_at_call 12; (with_reducible refine (columbariumlaw14_awake.calls k  tz1 _ A4.out).mono ?_); rintro e w8 ⟨rfl, hb⟩; have n0_ := am (below_step (pb HB) hb); clear HB; have HB := n0_; clear n0_; (try clear hi)) | (go_at_call 13; (with_reducible refine (disk_New.calls 6 tz2 tz5 tz8 _ A5.out).mono ?_); rintro e w9 ⟨vz3, vz6, rfl, ho0, ho1, hb⟩; have n0_ := am (Kd.R_lower ho0 (below_size (pb HB))); have n1_ := am (Kd.R_lower ho1 (below_size (pb HB))); have n2_ := am (below_step (pb HB) hb); clear HB; have HOz4 := n0_; have HOz7 := n1_; have HB := n2_; clear n0_ n1_ n2_; (try clear ho1)) | ((with_reducible refine gate_dst (N := 8) rfl ?_); (try (refine gate_guard (by rfl) ?_; dsimp only)); refine box_event ?hg (N := 8) ?hd (cs := #[.slice none 0 0, .slice none 0 0]) (t := 30) ?hr ?_; (case hd => rfl); (case hg => rfl); (case hr => first | (go_simp; done) | (go_simp; rfl)); intro gbz9 hg w10 hbox hb; have n0_ := am (Kd.R_below (pr HOz4) hb); have n1_ := am (Kd.R_below (pr HOz7) hb); have n2_ := am (below_step (pb HB) hb); have n3_ := am (hbox); have n4_ := ge_ hg (pb HB); have n5_ := ge_ hg (pb HB); clear HOz4; clear HOz7; clear HB; have HOz4 := n0_; have HOz7 := n1_; have HB := n2_; have BKz9 := n3_; have GWz9 := n4_; have GEz9 := n5_; clear n0_ n1_ n2_ n3_ n4_ n5_; clear hb hbox hg; obtain ⟨Ao11, co11, eo11⟩ := Kd.R_slice HOz4.out; subst eo11; obtain ⟨hcz12_0, hcz12_1⟩ := bc2 BKz9; obtain ⟨hfz12_0, hfz12_1⟩ := bf2 BKz9; obtain ⟨Ao13, co13, eo13⟩ := Kd.R_slice HOz7.out; subst eo13) | (go_at_call 16; (with_reducible refine (columbariumlaw14_pick.calls a1 6 tz10 _ A6.out).mono ?_); rintro e w' ⟨rfl, ⟨nd, rfl⟩⟩; (try first | exact ⟨rfl, _, World.drewN_drewN _ _ _⟩ | exact ⟨rfl, _, Eq.trans (World.drewN_drewN _ _ _) (congrArg (World.drewN _) (Nat.add_assoc _ _ _))⟩)) | (go_at_call 18; (with_reducible refine (columbariumlaw14_Moves.calls k _ _ l0 6 tz11 _ ?side1 ?side2 A7.out).mono ?_); (case side1 => exact Kd.C_below HR0.out (by repeat first | (with_reducible first | exact HB.out | apply ba | apply bn | apply bd | refine bs (by assumption) ?_) | exact HB.out)); (case side2 => exact HC0.out); rintro e w14 ⟨vz12, rfl, ho0, hb⟩; have n0_ := am (Kd.R_below (by (with_reducible repeat first | apply ra | apply rn | apply rd); exact (rs2 HOz4 BKz9 (by decide))) hb); have n1_ := am (Kd.R_elder' (by (with_reducible repeat first | apply ra | apply rn | apply rd); exact (rs2 HOz7 BKz9 (by decide))) (Kd.R_base ho0) hb); have n2_ := am (Kd.R_lower (Kd.R_new' ho0 (Kd.R_lt (by (with_reducible repeat first | apply ra | apply rn | apply rd); exact (rs2 HOz7 BKz9 (by decide))))) (below_size (by repeat first | (with_reducible first | exact HB.out | apply ba | apply bn | apply bd | refine bs (by assumption) ?_) | exact HB.out))); have n3_ := am (blk_below (g := gbz9) (o := .cells #[.slice Ao11 tz2.length co11, .slice Ao13 tz5.length co13] 30 (0, 0)) (by (with_reducible repeat (first | refine blk_drewN ?_ _ | refine blk_drew ?_ | refine blk_alloc ?_ _)); apply bp2; exact pk BKz9) hb); have n4_ := am (below_step (by repeat first | (with_reducible first | exact HB.out | apply ba | apply bn | apply bd | refine bs (by assumption) ?_) | exact HB.out) hb); clear HOz4; clear HOz7; clear BKz9; clear HB; have HOz4 := n0_; have HOz7 := n1_; have HOz13 := n2_; have BKz9 := n3_; have HB := n4_; clear n0_ n1_ n2_ n3_ n4_; (try clear ho0)))
 repeat (go_quiet (first | (go_at_call 12; (with_reducible refine (columbariumlaw14_awake.calls k  tz1 _ A4.out).mono ?_); rintro e w8 ⟨rfl, hb⟩; have n0_ := am (below_step (pb HB) hb); clear HB; have HB := n0_; clear n0_; (try clear hi)) | (go_at_call 13; (with_reducible refine (disk_New.calls 6 tz2 tz5 tz8 _ A5.out).mono ?_); rintro e w9 ⟨vz3, vz6, rfl, ho0, ho1, hb⟩; have n0_ := am (Kd.R_lower ho0 (below_size (pb HB))); have n1_ := am (Kd.R_lower ho1 (below_size (pb HB))); have n2_ := am (below_step (pb HB) hb); clear HB; have HOz4 := n0_; have HOz7 := n1_; have HB := n2_; clear n0_ n1_ n2_; (try clear ho1)) | ((with_reducible refine gate_dst (N := 8) rfl ?_); (try (refine gate_guard (by rfl) ?_; dsimp only)); refine box_event ?hg (N := 8) ?hd (cs := #[.slice none 0 0, .slice none 0 0]) (t := 30) ?hr ?_; (case hd => rfl); (case hg => rfl); (case hr => first | (go_simp; done) | (go_simp; rfl)); intro gbz9 hg w10 hbox hb; have n0_ := am (Kd.R_below (pr HOz4) hb); have n1_ := am (Kd.R_below (pr HOz7) hb); have n2_ := am (below_step (pb HB) hb); have n3_ := am (hbox); have n4_ := ge_ hg (pb HB); have n5_ := ge_ hg (pb HB); clear HOz4; clear HOz7; clear HB; have HOz4 := n0_; have HOz7 := n1_; have HB := n2_; have BKz9 := n3_; have GWz9 := n4_; have GEz9 := n5_; clear n0_ n1_ n2_ n3_ n4_ n5_; clear hb hbox hg; obtain ⟨Ao11, co11, eo11⟩ := Kd.R_slice HOz4.out; subst eo11; obtain ⟨hcz12_0, hcz12_1⟩ := bc2 BKz9; obtain ⟨hfz12_0, hfz12_1⟩ := bf2 BKz9; obtain ⟨Ao13, co13, eo13⟩ := Kd.R_slice HOz7.out; subst eo13) | (go_at_call 16; (with_reducible refine (columbariumlaw14_pick.calls a1 6 tz10 _ A6.out).mono ?_); rintro e w' ⟨rfl, ⟨nd, rfl⟩⟩; (try first | exact ⟨rfl, _, World.drewN_drewN _ _ _⟩ | exact ⟨rfl, _, Eq.trans (World.drewN_drewN _ _ _) (congrArg (World.drewN _) (Nat.add_assoc _ _ _))⟩)) | (go_at_call 18; (with_reducible refine (columbariumlaw14_Moves.calls k _ _ l0 6 tz11 _ ?side1 ?side2 A7.out).mono ?_); (case side1 => exact Kd.C_below HR0.out (by repeat first | (with_reducible first | exact HB.out | apply ba | apply bn | apply bd | refine bs (by assumption) ?_) | exact HB.out)); (case side2 => exact HC0.out); rintro e w14 ⟨vz12, rfl, ho0, hb⟩; have n0_ := am (Kd.R_below (by (with_reducible repeat first | apply ra | apply rn | apply rd); exact (rs2 HOz4 BKz9 (by decide))) hb); have n1_ := am (Kd.R_elder' (by (with_reducible repeat first | apply ra | apply rn | apply rd); exact (rs2 HOz7 BKz9 (by decide))) (Kd.R_base ho0) hb); have n2_ := am (Kd.R_lower (Kd.R_new' ho0 (Kd.R_lt (by (with_reducible repeat first | apply ra | apply rn | apply rd); exact (rs2 HOz7 BKz9 (by decide))))) (below_size (by repeat first | (with_reducible first | exact HB.out | apply ba | apply bn | apply bd | refine bs (by assumption) ?_) | exact HB.out))); have n3_ := am (blk_below (g := gbz9) (o := .cells #[.slice Ao11 tz2.length co11, .slice Ao13 tz5.length co13] 30 (0, 0)) (by (with_reducible repeat (first | refine blk_drewN ?_ _ | refine blk_drew ?_ | refine blk_alloc ?_ _)); apply bp2; exact pk BKz9) hb); have n4_ := am (below_step (by repeat first | (with_reducible first | exact HB.out | apply ba | apply bn | apply bd | refine bs (by assumption) ?_) | exact HB.out) hb); clear HOz4; clear HOz7; clear BKz9; clear HB; have HOz4 := n0_; have HOz7 := n1_; have HOz13 := n2_; have BKz9 := n3_; have HB := n4_; clear n0_ n1_ n2_ n3_ n4_; (try clear ho0))); try go_wp2_with (first | (go_at_call 12; (with_reducible refine (columbariumlaw14_awake.calls k  tz1 _ A4.out).mono ?_); rintro e w8 ⟨rfl, hb⟩; have n0_ := am (below_step (pb HB) hb); clear HB; have HB := n0_; clear n0_; (try clear hi)) | (go_at_call 13; (with_reducible refine (disk_New.calls 6 tz2 tz5 tz8 _ A5.out).mono ?_); rintro e w9 ⟨vz3, vz6, rfl, ho0, ho1, hb⟩; have n0_ := am (Kd.R_lower ho0 (below_size (pb HB))); have n1_ := am (Kd.R_lower ho1 (below_size (pb HB))); have n2_ := am (below_step (pb HB) hb); clear HB; have HOz4 := n0_; have HOz7 := n1_; have HB := n2_; clear n0_ n1_ n2_; (try clear ho1)) | ((with_reducible refine gate_dst (N := 8) rfl ?_); (try (refine gate_guard (by rfl) ?_; dsimp only)); refine box_event ?hg (N := 8) ?hd (cs := #[.slice none 0 0, .slice none 0 0]) (t := 30) ?hr ?_; (case hd => rfl); (case hg => rfl); (case hr => first | (go_simp; done) | (go_simp; rfl)); intro gbz9 hg w10 hbox hb; have n0_ := am (Kd.R_below (pr HOz4) hb); have n1_ := am (Kd.R_below (pr HOz7) hb); have n2_ := am (below_step (pb HB) hb); have n3_ := am (hbox); have n4_ := ge_ hg (pb HB); have n5_ := ge_ hg (pb HB); clear HOz4; clear HOz7; clear HB; have HOz4 := n0_; have HOz7 := n1_; have HB := n2_; have BKz9 := n3_; have GWz9 := n4_; have GEz9 := n5_; clear n0_ n1_ n2_ n3_ n4_ n5_; clear hb hbox hg; obtain ⟨Ao11, co11, eo11⟩ := Kd.R_slice HOz4.out; subst eo11; obtain ⟨hcz12_0, hcz12_1⟩ := bc2 BKz9; obtain ⟨hfz12_0, hfz12_1⟩ := bf2 BKz9; obtain ⟨Ao13, co13, eo13⟩ := Kd.R_slice HOz7.out; subst eo13) | (go_at_call 16; (with_reducible refine (columbariumlaw14_pick.calls a1 6 tz10 _ A6.out).mono ?_); rintro e w' ⟨rfl, ⟨nd, rfl⟩⟩; (try first | exact ⟨rfl, _, World.drewN_drewN _ _ _⟩ | exact ⟨rfl, _, Eq.trans (World.drewN_drewN _ _ _) (congrArg (World.drewN _) (Nat.add_assoc _ _ _))⟩)) | (go_at_call 18; (with_reducible refine (columbariumlaw14_Moves.calls k _ _ l0 6 tz11 _ ?side1 ?side2 A7.out).mono ?_); (case side1 => exact Kd.C_below HR0.out (by repeat first | (with_reducible first | exact HB.out | apply ba | apply bn | apply bd | refine bs (by assumption) ?_) | exact HB.out)); (case side2 => exact HC0.out); rintro e w14 ⟨vz12, rfl, ho0, hb⟩; have n0_ := am (Kd.R_below (by (with_reducible repeat first | apply ra | apply rn | apply rd); exact (rs2 HOz4 BKz9 (by decide))) hb); have n1_ := am (Kd.R_elder' (by (with_reducible repeat first | apply ra | apply rn | apply rd); exact (rs2 HOz7 BKz9 (by decide))) (Kd.R_base ho0) hb); have n2_ := am (Kd.R_lower (Kd.R_new' ho0 (Kd.R_lt (by (with_reducible repeat first | apply ra | apply rn | apply rd); exact (rs2 HOz7 BKz9 (by decide))))) (below_size (by repeat first | (with_reducible first | exact HB.out | apply ba | apply bn | apply bd | refine bs (by assumption) ?_) | exact HB.out))); have n3_ := am (blk_below (g := gbz9) (o := .cells #[.slice Ao11 tz2.length co11, .slice Ao13 tz5.length co13] 30 (0, 0)) (by (with_reducible repeat (first | refine blk_drewN ?_ _ | refine blk_drew ?_ | refine blk_alloc ?_ _)); apply bp2; exact pk BKz9) hb); have n4_ := am (below_step (by repeat first | (with_reducible first | exact HB.out | apply ba | apply bn | apply bd | refine bs (by assumption) ?_) | exact HB.out) hb); clear HOz4; clear HOz7; clear BKz9; clear HB; have HOz4 := n0_; have HOz7 := n1_; have HOz13 := n2_; have BKz9 := n3_; have HB := n4_; clear n0_ n1_ n2_ n3_ n4_; (try clear ho0))))
 go_loopg [12, 13, 14, 15] k (fun kq v12 v13 v14 v15 w' => ∃ (x12_1 : List (S24)) (x13_1 : List Int) (x14_1 : Int) (x15_1 : Int), v14 = .int .i64 x14_1 ∧ v15 = .int .i64 x15_1 ∧ Aside0 (columbariumlaw14_DiskBlocks.l0 kq l2 tz1 tz8 tz10 tz11 x12_1 x13_1 x14_1 x15_1 tz2 tz5 = some r) ∧ Aside0 (kq ≤ k) ∧ Aside0 (Kd.R k24 24 w' w.heap.size (fun k_ => some k_ ≠ (v12 : Value).ownBlock ∧ some k_ ≠ ((.slice Ao13 tz5.length co13) : Value).ownBlock) vz12 tz11) ∧ Aside0 (Kd.R k24 24 w' w.heap.size (fun k_ => some k_ ≠ (vz12 : Value).ownBlock ∧ some k_ ≠ ((.slice Ao13 tz5.length co13) : Value).ownBlock) v12 x12_1) ∧ Aside0 (Kd.R (Kd.int .i64) 3 w' w.heap.size (fun _ => True) v13 x13_1) ∧ Aside0 (Kd.R Kd.string 9 w' w.heap.size (fun _ => True) (.slice Ao11 tz2.length co11) tz2) ∧ Aside0 (Kd.R k24 24 w' w.heap.size (fun k_ => some k_ ≠ (vz12 : Value).ownBlock ∧ some k_ ≠ (v12 : Value).ownBlock) (.slice Ao13 tz5.length co13) tz5) ∧ Aside0 (w'.heap[gbz9]? = some (.cells #[(.slice Ao11 tz2.length co11), (.slice Ao13 tz5.length co13)] 30 (0, 0))) ∧ Aside0 (Below w.heap.size w w'))
 case atStart => exact ⟨(([] : List (S24))), (([] : List Int)), (0), (0), (by first | rfl | (simp; done) | (simp [*]; done)), (by first | rfl | (simp; done) | (simp [*]; done)), H', ⟨Nat.le_refl _⟩, ⟨by (with_reducible repeat first | apply ra | apply rn | apply rd); exact Kd.R_mono HOz13.out (fun _ hk => ⟨(by simp [Value.ownBlock]), hk.2⟩)⟩, ⟨by exact Kd.R_nil _ _ _ _ _⟩, ⟨by exact Kd.R_nil _ _ _ _ _⟩, ⟨by (with_reducible repeat first | apply ra | apply rn | apply rd); exact HOz4.out⟩, ⟨by (with_reducible repeat first | apply ra | apply rn | apply rd); exact Kd.R_mono HOz7.out (fun _ hk => ⟨hk.2, (by simp [Value.ownBlock])⟩)⟩, ⟨by (with_reducible repeat (first | refine blk_drewN ?_ _ | refine blk_drew ?_ | refine blk_alloc ?_ _)); exact BKz9.out⟩, ⟨by repeat first | (with_reducible first | exact HB.out | apply ba | apply bn | apply bd | refine bs (by assumption) ?_) | exact HB.out⟩⟩
 clear H'
 try clear c2
 try clear p2
 try clear c6
 try clear hcz12_0
 try clear hcz12_1
 try clear hfz12_0
 try clear hfz12_1
 obtain ⟨x12_1, x13_1, x14_1, x15_1, rfl, rfl, HA, HK1, HO_11, HO_12, HO_13, HO_z10000, HO_z10001, BKz9, HB⟩ := hrel
 cases gk with
 | zero => exact absurd HA.out (by simp [columbariumlaw14_DiskBlocks.l0])
 | succ k1 => ?_
 have H := HA.out
 clear HA
 simp only [columbariumlaw14_DiskBlocks.l0] at H
 by_cases c15 : x15_1 < (tz11.length : Int)
 ·rw [if_pos c15] at H
  have c15b0 : decide (x15_1 < (tz11.length : Int)) = true := decide_eq_true c15
  clear c15
  by_cases c16 : 0 ≤ x15_1
  rotate_left
  ·rw [if_neg c16] at H
   exact absurd H (by simp)
  rw [if_pos c16] at H
  have c16b0 : decide (0 ≤ x15_1) = true := decide_eq_true c16
  clear c16
  have HC17 := am H
  clear H
  obtain ⟨Ao18, co18, eo18⟩ := Kd.R_slice HO_11.out
  subst eo18
  have pz14 : 0 ≤ (x15_1 : Int) := of_decide_eq_true (by first | (with_reducible assumption) | assumption)
  have qz14 : x15_1 < (tz11.length : Int) := of_decide_eq_true (by first | (with_reducible assumption) | assumption)
  obtain ⟨adz14, ez14, hxz14_0, hxz14_1, hxz14_2⟩ := at_T24 (Kd.R_reads' HO_11.out).2.2 x15_1 pz14 qz14
  cases ez14
  replace pz14 := eq_true pz14
  replace qz14 := eq_true qz14
  go_upto_if 48 with (fail)
  repeat (go_quiet (fail); go_upto_if 48 with (fail))
  go_cut [13, 14] (fun v13 v14 wc => ∃ (kq : Nat) (x13_16 : List Int) (x14_16 : Int), v14 = .int .i64 x14_16 ∧ Aside0 (columbariumlaw14_DiskBlocks.j1 kq l2 tz1 tz8 tz10 tz11 x12_1 x13_16 x14_16 x15_1 tz2 tz5 = some r) ∧ Aside0 (kq ≤ k1) ∧ Aside0 (Kd.R k24 24 wc w.heap.size (fun k_ => some k_ ≠ (u12 : Value).ownBlock ∧ some k_ ≠ ((.slice Ao13 tz5.length co13) : Value).ownBlock) (.slice (some adz14) tz11.length co18) tz11) ∧ Aside0 (Kd.R k24 24 wc w.heap.size (fun k_ => some k_ ≠ ((.slice (some adz14) tz11.length co18) : Value).ownBlock ∧ some k_ ≠ ((.slice Ao13 tz5.length co13) : Value).ownBlock) u12 x12_1) ∧ Aside0 (Kd.R (Kd.int .i64) 3 wc w.heap.size (fun _ => True) v13 x13_16) ∧ Aside0 (Kd.R Kd.string 9 wc w.heap.size (fun _ => True) (.slice Ao11 tz2.length co11) tz2) ∧ Aside0 (Kd.R k24 24 wc w.heap.size (fun k_ => some k_ ≠ ((.slice (some adz14) tz11.length co18) : Value).ownBlock ∧ some k_ ≠ (u12 : Value).ownBlock) (.slice Ao13 tz5.length co13) tz5) ∧ Aside0 (wc.heap[gbz9]? = some (.cells #[(.slice Ao11 tz2.length co11), (.slice Ao13 tz5.length co13)] 30 (0, 0))) ∧ Aside0 (Below w.heap.size w wc))
  case first =>
   have H := HC17.out
   clear HC17
   obtain ⟨bq19, hbq19⟩ : ∃ b_ : Bool, b_ = ((rd_T24 tz11 x15_1).f0) := ⟨_, rfl⟩
   replace H : (if bq19 = true then (columbariumlaw14_DiskBlocks.j1 k1 l2 tz1 tz8 tz10 tz11 x12_1 ([] : List Int) 0 x15_1 tz2 tz5) else (columbariumlaw14_DiskBlocks.j1 k1 l2 tz1 tz8 tz10 tz11 x12_1 x13_1 x14_1 x15_1 tz2 tz5)) = some r := by rw [← hbq19] at H; exact H
   have Nbq19 := am hbq19
   clear hbq19
   (try rw [← Nbq19.out])
   by_cases c20 : bq19 = true
   ·subst c20
    have H1 : (columbariumlaw14_DiskBlocks.j1 k1 l2 tz1 tz8 tz10 tz11 x12_1 ([] : List Int) 0 x15_1 tz2 tz5) = some r := by rw [if_pos rfl] at H; exact H
    clear H
    have H := H1
    clear H1
    have H' := am H
    clear H
    go_wp2
    repeat (go_quiet (fail); try go_wp2)
    go_meet
    case rel => exact ⟨_, (([] : List Int)), (0), (by first | rfl | (simp; done) | (simp [*]; done)), H', ⟨by have := HK1.out; first | omega | exact Nat.le_refl _⟩, ⟨by (with_reducible repeat first | apply ra | apply rn | apply rd); exact HO_11.out⟩, ⟨by (with_reducible repeat first | apply ra | apply rn | apply rd); exact HO_12.out⟩, ⟨by exact Kd.R_nil _ _ _ _ _⟩, ⟨by (with_reducible repeat first | apply ra | apply rn | apply rd); exact HO_z10000.out⟩, ⟨by (with_reducible repeat first | apply ra | apply rn | apply rd); exact HO_z10001.out⟩, ⟨by (with_reducible repeat (first | refine blk_drewN ?_ _ | refine blk_drew ?_ | refine blk_alloc ?_ _)); exact BKz9.out⟩, ⟨by repeat first | (with_reducible first | exact HB.out | apply ba | apply bn | apply bd | refine bs (by assumption) ?_) | exact HB.out⟩⟩
   replace c20 := Bool.eq_false_iff.mpr c20
   subst c20
   have H1 : (columbariumlaw14_DiskBlocks.j1 k1 l2 tz1 tz8 tz10 tz11 x12_1 x13_1 x14_1 x15_1 tz2 tz5) = some r := by rw [if_neg (show ¬ (false = true) by decide)] at H; exact H
   clear H
   have H := H1
   clear H1
   have H' := am H
   clear H
   go_wp2
   repeat (go_quiet (fail); try go_wp2)
   go_meet
   case rel => exact ⟨_, (x13_1), (x14_1), (by first | rfl | (simp; done) | (simp [*]; done)), H', ⟨by have := HK1.out; first | omega | exact Nat.le_refl _⟩, ⟨by (with_reducible repeat first | apply ra | apply rn | apply rd); exact HO_11.out⟩, ⟨by (with_reducible repeat first | apply ra | apply rn | apply rd); exact HO_12.out⟩, ⟨by (with_reducible repeat first | apply ra | apply rn | apply rd); exact HO_13.out⟩, ⟨by (with_reducible repeat first | apply ra | apply rn | apply rd); exact HO_z10000.out⟩, ⟨by (with_reducible repeat first | apply ra | apply rn | apply rd); exact HO_z10001.out⟩, ⟨by (with_reducible repeat (first | refine blk_drewN ?_ _ | refine blk_drew ?_ | refine blk_alloc ?_ _)); exact BKz9.out⟩, ⟨by repeat first | (with_reducible first | exact HB.out | apply ba | apply bn | apply bd | refine bs (by assumption) ?_) | exact HB.out⟩⟩
  clear HC17
  try clear c1
  try clear q1
  try clear c2
  try clear p2
  try clear c6
  try clear p6
  try clear q6
  try clear hx6
  try clear c15
  try clear c15b0
  try clear c16
  try clear c16b0
  try clear q19
  try clear c20
  try clear hcz12_0
  try clear hcz12_1
  try clear hfz12_0
  try clear hfz12_1
  try clear hxz14_0
  try clear hxz14_1
  try clear hxz14_2
  try clear p2
  try clear pz14
  try clear qz14
  obtain ⟨kq, x13_16, x14_16, rfl, HA, HJ16, HO_11, HO_12, HO_13, HO_z10000, HO_z10001, BKz9, HB⟩ := hcut
  cases kq with
  | zero => exact absurd HA.out (by simp [columbariumlaw14_DiskBlocks.j1])
  | succ kj16 => ?_
  have H := HA.out
  clear HA
  simp only [columbariumlaw14_DiskBlocks.j1] at H
  have HC21 := am H
  clear H
  go_upto_region 14 with (fail)
  repeat (go_quiet (fail); go_upto_region 14 with (fail))
  go_cut [62] (fun v62 wc => ∃ (kq : Nat) (x62_20 : Bool), v62 = .bool x62_20 ∧ Aside0 (columbariumlaw14_DiskBlocks.j2 kq l2 tz1 tz8 tz10 tz11 x12_1 x13_16 x14_16 x15_1 x62_20 tz2 tz5 = some r) ∧ Aside0 (kq ≤ kj16) ∧ Aside0 (Kd.R k24 24 wc w.heap.size (fun k_ => some k_ ≠ (u12 : Value).ownBlock ∧ some k_ ≠ ((.slice Ao13 tz5.length co13) : Value).ownBlock) (.slice (some adz14) tz11.length co18) tz11) ∧ Aside0 (Kd.R k24 24 wc w.heap.size (fun k_ => some k_ ≠ ((.slice (some adz14) tz11.length co18) : Value).ownBlock ∧ some k_ ≠ ((.slice Ao13 tz5.length co13) : Value).ownBlock) u12 x12_1) ∧ Aside0 (Kd.R (Kd.int .i64) 3 wc w.heap.size (fun _ => True) u13 x13_16) ∧ Aside0 (Kd.R Kd.string 9 wc w.heap.size (fun _ => True) (.slice Ao11 tz2.length co11) tz2) ∧ Aside0 (Kd.R k24 24 wc w.heap.size (fun k_ => some k_ ≠ ((.slice (some adz14) tz11.length co18) : Value).ownBlock ∧ some k_ ≠ (u12 : Value).ownBlock) (.slice Ao13 tz5.length co13) tz5) ∧ Aside0 (wc.heap[gbz9]? = some (.cells #[(.slice Ao11 tz2.length co11), (.slice Ao13 tz5.length co13)] 30 (0, 0))) ∧ Aside0 (Below w.heap.size w wc))
  case first =>
   have H := HC21.out
   clear HC21
   by_cases c22 : 0 ≤ x15_1
   rotate_left
   ·rw [if_neg c22] at H
    exact absurd H (by simp)
   rw [if_pos c22] at H
   have c22b0 : decide (0 ≤ x15_1) = true := decide_eq_true c22
   clear c22
   (first | rw [c22b0] | rw [c22b1] | (simp only [i64_w, i32_w]; rw [c22b0]) | skip)
   by_cases c23 : x15_1 < (tz11.length : Int)
   rotate_left
   ·rw [if_neg c23] at H
    exact absurd H (by simp)
   rw [if_pos c23] at H
   have c23b0 : decide (x15_1 < (tz11.length : Int)) = true := decide_eq_true c23
   clear c23
   obtain ⟨bq24, hbq24⟩ : ∃ b_ : Bool, b_ = ((rd_T24 tz11 x15_1).f0) := ⟨_, rfl⟩
   replace H : (if bq24 = true then (columbariumlaw14_DiskBlocks.j2 kj16 l2 tz1 tz8 tz10 tz11 x12_1 x13_16 x14_16 x15_1 true tz2 tz5) else (columbariumlaw14_DiskBlocks.j2 kj16 l2 tz1 tz8 tz10 tz11 x12_1 x13_16 x14_16 x15_1 (((rd_T24 tz11 x15_1).f1) != tz10) tz2 tz5)) = some r := by rw [← hbq24] at H; exact H
   have Nbq24 := am hbq24
   clear hbq24
   by_cases c25 : bq24 = true
   ·subst c25
    have H1 : (columbariumlaw14_DiskBlocks.j2 kj16 l2 tz1 tz8 tz10 tz11 x12_1 x13_16 x14_16 x15_1 true tz2 tz5) = some r := by rw [if_pos rfl] at H; exact H
    clear H
    have H := H1
    clear H1
    have H' := am H
    clear H
    have pz15 : 0 ≤ (x15_1 : Int) := of_decide_eq_true (by first | (with_reducible assumption) | assumption)
    have qz15 : x15_1 < (tz11.length : Int) := of_decide_eq_true (by first | (with_reducible assumption) | assumption)
    obtain ⟨adz15, ez15, hxz15_0, hxz15_1, hxz15_2⟩ := at_T24 (Kd.R_reads' HO_11.out).2.2 x15_1 pz15 qz15
    (try rw [← Nbq24.out] at hxz15_0)
    obtain rfl : adz14 = adz15 := (by injection ez15)
    replace pz15 := eq_true pz15
    replace qz15 := eq_true qz15
    go_wp2
    repeat (go_quiet (fail); try go_wp2)
    go_meet
    case rel => exact ⟨_, (true), (by first | rfl | (simp; done) | (simp [*]; done)), H', ⟨by have := HK1.out; have := HJ16.out; first | omega | exact Nat.le_refl _⟩, ⟨by (with_reducible repeat first | apply ra | apply rn | apply rd); exact HO_11.out⟩, ⟨by (with_reducible repeat first | apply ra | apply rn | apply rd); exact HO_12.out⟩, ⟨by (with_reducible repeat first | apply ra | apply rn | apply rd); exact HO_13.out⟩, ⟨by (with_reducible repeat first | apply ra | apply rn | apply rd); exact HO_z10000.out⟩, ⟨by (with_reducible repeat first | apply ra | apply rn | apply rd); exact HO_z10001.out⟩, ⟨by (with_reducible repeat (first | refine blk_drewN ?_ _ | refine blk_drew ?_ | refine blk_alloc ?_ _)); exact BKz9.out⟩, ⟨by repeat first | (with_reducible first | exact HB.out | apply ba | apply bn | apply bd | refine bs (by assumption) ?_) | exact HB.out⟩⟩
   replace c25 := Bool.eq_false_iff.mpr c25
   subst c25
   have H1 : (columbariumlaw14_DiskBlocks.j2 kj16 l2 tz1 tz8 tz10 tz11 x12_1 x13_16 x14_16 x15_1 (((rd_T24 tz11 x15_1).f1) != tz10) tz2 tz5) = some r := by rw [if_neg (show ¬ (false = true) by decide)] at H; exact H
   clear H
   have H := H1
   clear H1
   have H' := am H
   clear H
   have pz15 : 0 ≤ (x15_1 : Int) := of_decide_eq_true (by first | (with_reducible assumption) | assumption)
   have qz15 : x15_1 < (tz11.length : Int) := of_decide_eq_true (by first | (with_reducible assumption) | assumption)
   obtain ⟨adz15, ez15, hxz15_0, hxz15_1, hxz15_2⟩ := at_T24 (Kd.R_reads' HO_11.out).2.2 x15_1 pz15 qz15
   (try rw [← Nbq24.out] at hxz15_0)
   obtain rfl : adz14 = adz15 := (by injection ez15)
   replace pz15 := eq_true pz15
   replace qz15 := eq_true qz15
   have pz16 : 0 ≤ (x15_1 : Int) := of_decide_eq_true (by first | (with_reducible assumption) | assumption)
   have qz16 : x15_1 < (tz11.length : Int) := of_decide_eq_true (by first | (with_reducible assumption) | assumption)
   obtain ⟨adz16, ez16, hxz16_0, hxz16_1, hxz16_2⟩ := at_T24 (Kd.R_reads' HO_11.out).2.2 x15_1 pz16 qz16
   (try rw [← Nbq24.out] at hxz16_0)
   obtain rfl : adz14 = adz16 := (by injection ez16)
   replace pz16 := eq_true pz16
   replace qz16 := eq_true qz16
   go_wp2
   repeat (go_quiet (fail); try go_wp2)
   go_meet
   case rel => exact ⟨_, ((((rd_T24 tz11 x15_1).f1) != tz10)), (by first | rfl | (simp; done) | (simp [*]; done)), H', ⟨by have := HK1.out; have := HJ16.out; first | omega | exact Nat.le_refl _⟩, ⟨by (with_reducible repeat first | apply ra | apply rn | apply rd); exact HO_11.out⟩, ⟨by (with_reducible repeat first | apply ra | apply rn | apply rd); exact HO_12.out⟩, ⟨by (with_reducible repeat first | apply ra | apply rn | apply rd); exact HO_13.out⟩, ⟨by (with_reducible repeat first | apply ra | apply rn | apply rd); exact HO_z10000.out⟩, ⟨by (with_reducible repeat first | apply ra | apply rn | apply rd); exact HO_z10001.out⟩, ⟨by (with_reducible repeat (first | refine blk_drewN ?_ _ | refine blk_drew ?_ | refine blk_alloc ?_ _)); exact BKz9.out⟩, ⟨by repeat first | (with_reducible first | exact HB.out | apply ba | apply bn | apply bd | refine bs (by assumption) ?_) | exact HB.out⟩⟩
  clear HC21
  try clear c1
  try clear q1
  try clear c2
  try clear p2
  try clear q2
  try clear c6
  try clear p6
  try clear q6
  try clear hx6
  try clear c15
  try clear c15b0
  try clear c16
  try clear c16b0
  try clear q19
  try clear c20
  try clear c22
  try clear c22b0
  try clear c22b1
  try clear c23
  try clear c23b0
  try clear q24
  try clear c25
  try clear hcz12_0
  try clear hcz12_1
  try clear hfz12_0
  try clear hfz12_1
  try clear hxz14_0
  try clear hxz14_1
  try clear hxz14_2
  try clear hxz15_0
  try clear hxz15_1
  try clear hxz15_2
  try clear hxz16_0
  try clear hxz16_1
  try clear hxz16_2
  try clear p2
  try clear p6
  try clear pz14
  try clear pz15
  try clear pz16
  try clear q1
  try clear q19
  try clear q6
  try clear qz14
  try clear qz15
  try clear qz16
  obtain ⟨kq, x62_20, rfl, HA, HJ20, HO_11, HO_12, HO_13, HO_z10000, HO_z10001, BKz9, HB⟩ := hcut
  cases kq with
  | zero => exact absurd HA.out (by simp [columbariumlaw14_DiskBlocks.j2])
  | succ kj20 => ?_
  have H := HA.out
  clear HA
  simp only [columbariumlaw14_DiskBlocks.j2] at H
  have HC26 := am H
  clear H
  go_upto_if 62 with (fail)
  repeat (go_quiet (fail); go_upto_if 62 with (fail))
  go_cut [12] (fun v12 wc => ∃ (kq : Nat) (x12_25 : List (S24)), Aside0 (columbariumlaw14_DiskBlocks.j3 kq l2 tz1 tz8 tz10 tz11 x12_25 x13_16 x14_16 x15_1 tz2 tz5 = some r) ∧ Aside0 (kq ≤ kj20) ∧ Aside0 (Kd.R k24 24 wc w.heap.size (fun k_ => some k_ ≠ (v12 : Value).ownBlock ∧ some k_ ≠ ((.slice Ao13 tz5.length co13) : Value).ownBlock) (.slice (some adz14) tz11.length co18) tz11) ∧ Aside0 (Kd.R k24 24 wc w.heap.size (fun k_ => some k_ ≠ ((.slice (some adz14) tz11.length co18) : Value).ownBlock ∧ some k_ ≠ ((.slice Ao13 tz5.length co13) : Value).ownBlock) v12 x12_25) ∧ Aside0 (Kd.R (Kd.int .i64) 3 wc w.heap.size (fun _ => True) u13 x13_16) ∧ Aside0 (Kd.R Kd.string 9 wc w.heap.size (fun _ => True) (.slice Ao11 tz2.length co11) tz2) ∧ Aside0 (Kd.R k24 24 wc w.heap.size (fun k_ => some k_ ≠ ((.slice (some adz14) tz11.length co18) : Value).ownBlock ∧ some k_ ≠ (v12 : Value).ownBlock) (.slice Ao13 tz5.length co13) tz5) ∧ Aside0 (wc.heap[gbz9]? = some (.cells #[(.slice Ao11 tz2.length co11), (.slice Ao13 tz5.length co13)] 30 (0, 0))) ∧ Aside0 (Below w.heap.size w wc))
  case first =>
   have H := HC26.out
   clear HC26
   by_cases c27 : x62_20 = true
   rotate_left
   ·replace c27 := Bool.eq_false_iff.mpr c27
    subst c27
    have H1 : (columbariumlaw14_DiskBlocks.j3 kj20 l2 tz1 tz8 tz10 tz11 x12_1 x13_16 x14_16 x15_1 tz2 tz5) = some r := by rw [if_neg (show ¬ (false = true) by decide)] at H; exact H
    clear H
    have H := H1
    clear H1
    have H' := am H
    clear H
    go_wp2
    repeat (go_quiet (fail); try go_wp2)
    go_meet
    case rel => exact ⟨_, (x12_1), H', ⟨by have := HK1.out; have := HJ16.out; have := HJ20.out; first | omega | exact Nat.le_refl _⟩, ⟨by (with_reducible repeat first | apply ra | apply rn | apply rd); exact HO_11.out⟩, ⟨by (with_reducible repeat first | apply ra | apply rn | apply rd); exact HO_12.out⟩, ⟨by (with_reducible repeat first | apply ra | apply rn | apply rd); exact HO_13.out⟩, ⟨by (with_reducible repeat first | apply ra | apply rn | apply rd); exact HO_z10000.out⟩, ⟨by (with_reducible repeat first | apply ra | apply rn | apply rd); exact HO_z10001.out⟩, ⟨by (with_reducible repeat (first | refine blk_drewN ?_ _ | refine blk_drew ?_ | refine blk_alloc ?_ _)); exact BKz9.out⟩, ⟨by repeat first | (with_reducible first | exact HB.out | apply ba | apply bn | apply bd | refine bs (by assumption) ?_) | exact HB.out⟩⟩
   subst c27
   have H1 : (if 0 ≤ x15_1 then (if x15_1 < (tz11.length : Int) then (if x12_1.length < 4398046511104 then (columbariumlaw14_DiskBlocks.j3 kj20 l2 tz1 tz8 tz10 tz11 (x12_1 ++ [(⟨(rd_T24 tz11 x15_1).f0, (rd_T24 tz11 x15_1).f1, (rd_T24 tz11 x15_1).f2⟩ : S24)]) x13_16 x14_16 x15_1 tz2 tz5) else (none)) else (none)) else (none)) = some r := by rw [if_pos rfl] at H; exact H
   clear H
   have H := H1
   clear H1
   by_cases c28 : 0 ≤ x15_1
   rotate_left
   ·rw [if_neg c28] at H
    exact absurd H (by simp)
   rw [if_pos c28] at H
   have c28b0 : decide (0 ≤ x15_1) = true := decide_eq_true c28
   clear c28
   (first | rw [c28b0] | rw [c28b1] | (simp only [i64_w, i32_w]; rw [c28b0]) | skip)
   by_cases c29 : x15_1 < (tz11.length : Int)
   rotate_left
   ·rw [if_neg c29] at H
    exact absurd H (by simp)
   rw [if_pos c29] at H
   have c29b0 : decide (x15_1 < (tz11.length : Int)) = true := decide_eq_true c29
   clear c29
   by_cases c30 : x12_1.length < 4398046511104
   rotate_left
   ·rw [if_neg c30] at H
    exact absurd H (by simp)
   rw [if_pos c30] at H
   have LMc30 := Aside0.mk c30
   clear c30
   obtain ⟨yz18, hyz18⟩ : ∃ y_ : List (S24), y_ = (x12_1 ++ [(⟨(rd_T24 tz11 x15_1).f0, (rd_T24 tz11 x15_1).f1, (rd_T24 tz11 x15_1).f2⟩ : S24)]) := ⟨_, rfl⟩
   replace H : (columbariumlaw14_DiskBlocks.j3 kj20 l2 tz1 tz8 tz10 tz11 yz18 x13_16 x14_16 x15_1 tz2 tz5) = some r := by first | (rw [hyz18]; with_reducible exact H) | (have H2_ := (Option.bind_some _ _).symm.trans H; rw [hyz18]; with_reducible exact H2_) | (have H2_ := (Option.bind_some _ _).symm.trans H; with_reducible exact H2_) | with_reducible exact H | (rw [hyz18]; exact H) | exact H
   have Nyz18 := am hyz18
   clear hyz18
   have H' := am H
   clear H
   have pz17 : 0 ≤ (x15_1 : Int) := of_decide_eq_true (by first | (with_reducible assumption) | assumption)
   have qz17 : x15_1 < (tz11.length : Int) := of_decide_eq_true (by first | (with_reducible assumption) | assumption)
   obtain ⟨adz17, ez17, hxz17_0, hxz17_1, hxz17_2⟩ := at_T24 (Kd.R_reads' HO_11.out).2.2 x15_1 pz17 qz17
   obtain rfl : adz14 = adz17 := (by injection ez17)
   replace pz17 := eq_true pz17
   replace qz17 := eq_true qz17
   go_wp2_with (first | ((with_reducible refine gate_builtin (b := .append) (xs := #[.tmp 63, .tmp 68]) rfl ?_); (try (refine gate_guard (by rfl) ?_; dsimp only)); at_builtin; refine Kd.R_append k24 (w0 := w) w.heap.size rfl (.tmp 63) (.tmp 68) 28 24 (.agg #[(.bool false), (.int .i64 0), (.string ⟨#[]⟩)]) 32 rfl Try.underlying28 info24 rfl (by decide) (by omega) u12 x12_1 (⟨(rd_T24 tz11 x15_1).f0, (rd_T24 tz11 x15_1).f1, (rd_T24 tz11 x15_1).f2⟩ : S24) [.bool ((rd_T24 tz11 x15_1).f0), .int .i64 ((rd_T24 tz11 x15_1).f1), .string ((rd_T24 tz11 x15_1).f2)] (fun k_ => some k_ ≠ (.slice (some adz14) tz11.length co18 : Value).ownBlock ∧ some k_ ≠ (.slice Ao13 tz5.length co13 : Value).ownBlock) (fun _ => False) rfl rfl ?aP (fun _ hk => hk.elim) ?aF ?aO ?aB ?aS ?aL ?_; (case aP => exact k24_mkM _ _ _ (⟨(rd_T24 tz11 x15_1).f0, (rd_T24 tz11 x15_1).f1, (rd_T24 tz11 x15_1).f2⟩ : S24)); (case aB => exact (by repeat first | (with_reducible first | exact HB.out | apply ba | apply bn | apply bd | refine bs (by assumption) ?_) | exact HB.out)); (case aF => exact (fun k_ hk => ⟨Kd.fresh' (Kd.R_lt (pr HO_11)) k_ hk, Kd.fresh' (Kd.R_lt (pr HO_z10001)) k_ hk⟩)); (case aO => exact (pr HO_12)); (case aS => exact (below_size (by repeat first | (with_reducible first | exact HB.out | apply ba | apply bn | apply bd | refine bs (by assumption) ?_) | exact HB.out))); (case aL => have := LMc30.out; omega); intro vz19 w31 ho hb hg hat; rw [← Nyz18.out] at ho; have n0_ := am (Kd.R_after (ok := (fun k_ => some k_ ≠ (.slice Ao13 tz5.length co13 : Value).ownBlock)) (pm HO_11 (fun _ hk => ⟨hk.2, hk.1⟩)) hg hat); have n1_ := am (Kd.R_over' (pr HO_13) (Kd.R_typed (pr HO_12)) (by decide) hg); have n2_ := am (Kd.R_over' (pr HO_z10000) (Kd.R_typed (pr HO_12)) (by decide) hg); have n3_ := am (Kd.R_after (ok := (fun k_ => some k_ ≠ (.slice (some adz14) tz11.length co18 : Value).ownBlock)) (pr HO_z10001) hg hat); have n4_ := am (blk_grown (pk BKz9) hg (Kd.R_ne HO_12.out BKz9.out (by decide))); have n5_ := am (hb); have n6_ := am (ho); clear HO_11; clear HO_13; clear HO_z10000; clear HO_z10001; clear BKz9; clear HB; clear HO_12; have HO_11 := n0_; have HO_13 := n1_; have HO_z10000 := n2_; have HO_z10001 := n3_; have BKz9 := n4_; have HB := n5_; have HOz20 := n6_; clear n0_ n1_ n2_ n3_ n4_ n5_ n6_; clear ho hb hg hat))
   repeat (go_quiet (first | ((with_reducible refine gate_builtin (b := .append) (xs := #[.tmp 63, .tmp 68]) rfl ?_); (try (refine gate_guard (by rfl) ?_; dsimp only)); at_builtin; refine Kd.R_append k24 (w0 := w) w.heap.size rfl (.tmp 63) (.tmp 68) 28 24 (.agg #[(.bool false), (.int .i64 0), (.string ⟨#[]⟩)]) 32 rfl Try.underlying28 info24 rfl (by decide) (by omega) u12 x12_1 (⟨(rd_T24 tz11 x15_1).f0, (rd_T24 tz11 x15_1).f1, (rd_T24 tz11 x15_1).f2⟩ : S24) [.bool ((rd_T24 tz11 x15_1).f0), .int .i64 ((rd_T24 tz11 x15_1).f1), .string ((rd_T24 tz11 x15_1).f2)] (fun k_ => some k_ ≠ (.slice (some adz14) tz11.length co18 : Value).ownBlock ∧ some k_ ≠ (.slice Ao13 tz5.length co13 : Value).ownBlock) (fun _ => False) rfl rfl ?aP (fun _ hk => hk.elim) ?aF ?aO ?aB ?aS ?aL ?_; (case aP => exact k24_mkM _ _ _ (⟨(rd_T24 tz11 x15_1).f0, (rd_T24 tz11 x15_1).f1, (rd_T24 tz11 x15_1).f2⟩ : S24)); (case aB => exact (by repeat first | (with_reducible first | exact HB.out | apply ba | apply bn | apply bd | refine bs (by assumption) ?_) | exact HB.out)); (case aF => exact (fun k_ hk => ⟨Kd.fresh' (Kd.R_lt (pr HO_11)) k_ hk, Kd.fresh' (Kd.R_lt (pr HO_z10001)) k_ hk⟩)); (case aO => exact (pr HO_12)); (case aS => exact (below_size (by repeat first | (with_reducible first | exact HB.out | apply ba | apply bn | apply bd | refine bs (by assumption) ?_) | exact HB.out))); (case aL => have := LMc30.out; omega); intro vz19 w31 ho hb hg hat; rw [← Nyz18.out] at ho; have n0_ := am (Kd.R_after (ok := (fun k_ => some k_ ≠ (.slice Ao13 tz5.length co13 : Value).ownBlock)) (pm HO_11 (fun _ hk => ⟨hk.2, hk.1⟩)) hg hat); have n1_ := am (Kd.R_over' (pr HO_13) (Kd.R_typed (pr HO_12)) (by decide) hg); have n2_ := am (Kd.R_over' (pr HO_z10000) (Kd.R_typed (pr HO_12)) (by decide) hg); have n3_ := am (Kd.R_after (ok := (fun k_ => some k_ ≠ (.slice (some adz14) tz11.length co18 : Value).ownBlock)) (pr HO_z10001) hg hat); have n4_ := am (blk_grown (pk BKz9) hg (Kd.R_ne HO_12.out BKz9.out (by decide))); have n5_ := am (hb); have n6_ := am (ho); clear HO_11; clear HO_13; clear HO_z10000; clear HO_z10001; clear BKz9; clear HB; clear HO_12; have HO_11 := n0_; have HO_13 := n1_; have HO_z10000 := n2_; have HO_z10001 := n3_; have BKz9 := n4_; have HB := n5_; have HOz20 := n6_; clear n0_ n1_ n2_ n3_ n4_ n5_ n6_; clear ho hb hg hat)); try go_wp2_with (first | ((with_reducible refine gate_builtin (b := .append) (xs := #[.tmp 63, .tmp 68]) rfl ?_); (try (refine gate_guard (by rfl) ?_; dsimp only)); at_builtin; refine Kd.R_append k24 (w0 := w) w.heap.size rfl (.tmp 63) (.tmp 68) 28 24 (.agg #[(.bool false), (.int .i64 0), (.string ⟨#[]⟩)]) 32 rfl Try.underlying28 info24 rfl (by decide) (by omega) u12 x12_1 (⟨(rd_T24 tz11 x15_1).f0, (rd_T24 tz11 x15_1).f1, (rd_T24 tz11 x15_1).f2⟩ : S24) [.bool ((rd_T24 tz11 x15_1).f0), .int .i64 ((rd_T24 tz11 x15_1).f1), .string ((rd_T24 tz11 x15_1).f2)] (fun k_ => some k_ ≠ (.slice (some adz14) tz11.length co18 : Value).ownBlock ∧ some k_ ≠ (.slice Ao13 tz5.length co13 : Value).ownBlock) (fun _ => False) rfl rfl ?aP (fun _ hk => hk.elim) ?aF ?aO ?aB ?aS ?aL ?_; (case aP => exact k24_mkM _ _ _ (⟨(rd_T24 tz11 x15_1).f0, (rd_T24 tz11 x15_1).f1, (rd_T24 tz11 x15_1).f2⟩ : S24)); (case aB => exact (by repeat first | (with_reducible first | exact HB.out | apply ba | apply bn | apply bd | refine bs (by assumption) ?_) | exact HB.out)); (case aF => exact (fun k_ hk => ⟨Kd.fresh' (Kd.R_lt (pr HO_11)) k_ hk, Kd.fresh' (Kd.R_lt (pr HO_z10001)) k_ hk⟩)); (case aO => exact (pr HO_12)); (case aS => exact (below_size (by repeat first | (with_reducible first | exact HB.out | apply ba | apply bn | apply bd | refine bs (by assumption) ?_) | exact HB.out))); (case aL => have := LMc30.out; omega); intro vz19 w31 ho hb hg hat; rw [← Nyz18.out] at ho; have n0_ := am (Kd.R_after (ok := (fun k_ => some k_ ≠ (.slice Ao13 tz5.length co13 : Value).ownBlock)) (pm HO_11 (fun _ hk => ⟨hk.2, hk.1⟩)) hg hat); have n1_ := am (Kd.R_over' (pr HO_13) (Kd.R_typed (pr HO_12)) (by decide) hg); have n2_ := am (Kd.R_over' (pr HO_z10000) (Kd.R_typed (pr HO_12)) (by decide) hg); have n3_ := am (Kd.R_after (ok := (fun k_ => some k_ ≠ (.slice (some adz14) tz11.length co18 : Value).ownBlock)) (pr HO_z10001) hg hat); have n4_ := am (blk_grown (pk BKz9) hg (Kd.R_ne HO_12.out BKz9.out (by decide))); have n5_ := am (hb); have n6_ := am (ho); clear HO_11; clear HO_13; clear HO_z10000; clear HO_z10001; clear BKz9; clear HB; clear HO_12; have HO_11 := n0_; have HO_13 := n1_; have HO_z10000 := n2_; have HO_z10001 := n3_; have BKz9 := n4_; have HB := n5_; have HOz20 := n6_; clear n0_ n1_ n2_ n3_ n4_ n5_ n6_; clear ho hb hg hat)))
   go_meet
   case rel => exact ⟨_, (yz18), H', ⟨by have := HK1.out; have := HJ16.out; have := HJ20.out; first | omega | exact Nat.le_refl _⟩, ⟨by (with_reducible repeat first | apply ra | apply rn | apply rd); exact Kd.R_mono HO_11.out (fun _ hk => ⟨hk.2, hk.1⟩)⟩, ⟨by (with_reducible repeat first | apply ra | apply rn | apply rd); exact HOz20.out⟩, ⟨by (with_reducible repeat first | apply ra | apply rn | apply rd); exact HO_13.out⟩, ⟨by (with_reducible repeat first | apply ra | apply rn | apply rd); exact HO_z10000.out⟩, ⟨by (with_reducible repeat first | apply ra | apply rn | apply rd); exact HO_z10001.out⟩, ⟨by (with_reducible repeat (first | refine blk_drewN ?_ _ | refine blk_drew ?_ | refine blk_alloc ?_ _)); exact BKz9.out⟩, ⟨by repeat first | (with_reducible first | exact HB.out | apply ba | apply bn | apply bd | refine bs (by assumption) ?_) | exact HB.out⟩⟩
  clear HC26
  try clear c1
  try clear q1
  try clear c2
  try clear p2
  try clear q2
  try clear c3
  try clear c6
  try clear p6
  try clear q6
  try clear hx6
  try clear c15
  try clear c15b0
  try clear c16
  try clear c16b0
  try clear q19
  try clear c20
  try clear c22
  try clear c22b0
  try clear c22b1
  try clear c23
  try clear c23b0
  try clear q24
  try clear c25
  try clear c27
  try clear c28
  try clear c28b0
  try clear c28b1
  try clear c29
  try clear c29b0
  try clear c30
  try clear hcz12_0
  try clear hcz12_1
  try clear hfz12_0
  try clear hfz12_1
  try clear hxz14_0
  try clear hxz14_1
  try clear hxz14_2
  try clear hxz15_0
  try clear hxz15_1
  try clear hxz15_2
  try clear hxz16_0
  try clear hxz16_1
  try clear hxz16_2
  try clear hxz17_0
  try clear hxz17_1
  try clear hxz17_2
  try clear p2
  try clear p6
  try clear pz14
  try clear pz15
  try clear pz16
  try clear pz17
  try clear q1
  try clear q19
  try clear q2
  try clear q24
  try clear q6
  try clear qz14
  try clear qz15
  try clear qz16
  try clear qz17
  obtain ⟨kq, x12_25, HA, HJ25, HO_11, HO_12, HO_13, HO_z10000, HO_z10001, BKz9, HB⟩ := hcut
  cases kq with
  | zero => exact absurd HA.out (by simp [columbariumlaw14_DiskBlocks.j3])
  | succ kj25 => ?_
  have H := HA.out
  clear HA
  simp only [columbariumlaw14_DiskBlocks.j3] at H
  by_cases c32 : 0 ≤ x15_1
  rotate_left
  ·rw [if_neg c32] at H
   exact absurd H (by simp)
  rw [if_pos c32] at H
  have c32b0 : decide (0 ≤ x15_1) = true := decide_eq_true c32
  clear c32
  by_cases c33 : x15_1 < (tz11.length : Int)
  rotate_left
  ·rw [if_neg c33] at H
   exact absurd H (by simp)
  rw [if_pos c33] at H
  have c33b0 : decide (x15_1 < (tz11.length : Int)) = true := decide_eq_true c33
  clear c33
  obtain ⟨bq34, hbq34⟩ : ∃ b_ : Bool, b_ = ((rd_T24 tz11 x15_1).f0) := ⟨_, rfl⟩
  replace H : (if (bq34 = true) then (columbariumlaw14_DiskBlocks.l0 kj25 l2 tz1 tz8 tz10 tz11 x12_25 x13_16 x14_16 (wrap64 (x15_1 + 1)) tz2 tz5) else (if ((rd_T24 tz11 x15_1).f1) = tz10 then (columbariumlaw14_DiskBlocks.j4 kj25 l2 tz1 tz8 tz10 tz11 x12_25 x13_16 x14_16 x15_1 false tz2 tz5) else (columbariumlaw14_DiskBlocks.j4 kj25 l2 tz1 tz8 tz10 tz11 x12_25 x13_16 x14_16 x15_1 (decide (x14_16 < (l2.length : Int))) tz2 tz5))) = some r := by rw [← hbq34] at H; exact H
  have Nbq34 := am hbq34
  clear hbq34
  by_cases c35 : (bq34 = true)
  ·subst c35
   have H1 : (columbariumlaw14_DiskBlocks.l0 kj25 l2 tz1 tz8 tz10 tz11 x12_25 x13_16 x14_16 (wrap64 (x15_1 + 1)) tz2 tz5) = some r := by rw [if_pos rfl] at H; exact H
   clear H
   have H := H1
   clear H1
   have H' := am H
   clear H
   have pz21 : 0 ≤ (x15_1 : Int) := of_decide_eq_true (by first | (with_reducible assumption) | assumption)
   have qz21 : x15_1 < (tz11.length : Int) := of_decide_eq_true (by first | (with_reducible assumption) | assumption)
   obtain ⟨adz21, ez21, hxz21_0, hxz21_1, hxz21_2⟩ := at_T24 (Kd.R_reads' HO_11.out).2.2 x15_1 pz21 qz21
   (try rw [← Nbq34.out] at hxz21_0)
   obtain rfl : adz14 = adz21 := (by injection ez21)
   replace pz21 := eq_true pz21
   replace qz21 := eq_true qz21
   go_wp2
   repeat (go_quiet (fail); try go_wp2)
   go_roundg kj25
   case measure => have := HK1.out; have := HJ16.out; have := HJ20.out; have := HJ25.out; omega
   case rel => exact ⟨(x12_25), (x13_16), (x14_16), (wrap64 (x15_1 + 1)), (by first | rfl | (simp; done) | (simp [*]; done)), (by first | rfl | (simp; done) | (simp [*]; done)), H', ⟨by have := HK1.out; have := HJ16.out; have := HJ20.out; have := HJ25.out; omega⟩, ⟨by (with_reducible repeat first | apply ra | apply rn | apply rd); exact HO_11.out⟩, ⟨by (with_reducible repeat first | apply ra | apply rn | apply rd); exact HO_12.out⟩, ⟨by (with_reducible repeat first | apply ra | apply rn | apply rd); exact HO_13.out⟩, ⟨by (with_reducible repeat first | apply ra | apply rn | apply rd); exact HO_z10000.out⟩, ⟨by (with_reducible repeat first | apply ra | apply rn | apply rd); exact HO_z10001.out⟩, ⟨by (with_reducible repeat (first | refine blk_drewN ?_ _ | refine blk_drew ?_ | refine blk_alloc ?_ _)); exact BKz9.out⟩, ⟨by repeat first | (with_reducible first | exact HB.out | apply ba | apply bn | apply bd | refine bs (by assumption) ?_) | exact HB.out⟩⟩
  replace c35 := Bool.eq_false_iff.mpr c35
  subst c35
  have H1 : (if ((rd_T24 tz11 x15_1).f1) = tz10 then (columbariumlaw14_DiskBlocks.j4 kj25 l2 tz1 tz8 tz10 tz11 x12_25 x13_16 x14_16 x15_1 false tz2 tz5) else (columbariumlaw14_DiskBlocks.j4 kj25 l2 tz1 tz8 tz10 tz11 x12_25 x13_16 x14_16 x15_1 (decide (x14_16 < (l2.length : Int))) tz2 tz5)) = some r := by rw [if_neg (show ¬ (false = true) by decide)] at H; exact H
  clear H
  have H := H1
  clear H1
  have HC36 := am H
  clear H
  have pz21 : 0 ≤ (x15_1 : Int) := of_decide_eq_true (by first | (with_reducible assumption) | assumption)
  have qz21 : x15_1 < (tz11.length : Int) := of_decide_eq_true (by first | (with_reducible assumption) | assumption)
  obtain ⟨adz21, ez21, hxz21_0, hxz21_1, hxz21_2⟩ := at_T24 (Kd.R_reads' HO_11.out).2.2 x15_1 pz21 qz21
  (try rw [← Nbq34.out] at hxz21_0)
  obtain rfl : adz14 = adz21 := (by injection ez21)
  replace pz21 := eq_true pz21
  replace qz21 := eq_true qz21
  go_upto_region 17 with (fail)
  repeat (go_quiet (fail); go_upto_region 17 with (fail))
  go_cut [88] (fun v88 wc => ∃ (kq : Nat) (x88_35 : Bool), v88 = .bool x88_35 ∧ Aside0 (columbariumlaw14_DiskBlocks.j4 kq l2 tz1 tz8 tz10 tz11 x12_25 x13_16 x14_16 x15_1 x88_35 tz2 tz5 = some r) ∧ Aside0 (kq ≤ kj25) ∧ Aside0 (Kd.R k24 24 wc w.heap.size (fun k_ => some k_ ≠ (u12 : Value).ownBlock ∧ some k_ ≠ ((.slice Ao13 tz5.length co13) : Value).ownBlock) (.slice (some adz14) tz11.length co18) tz11) ∧ Aside0 (Kd.R k24 24 wc w.heap.size (fun k_ => some k_ ≠ ((.slice (some adz14) tz11.length co18) : Value).ownBlock ∧ some k_ ≠ ((.slice Ao13 tz5.length co13) : Value).ownBlock) u12 x12_25) ∧ Aside0 (Kd.R (Kd.int .i64) 3 wc w.heap.size (fun _ => True) u13 x13_16) ∧ Aside0 (Kd.R Kd.string 9 wc w.heap.size (fun _ => True) (.slice Ao11 tz2.length co11) tz2) ∧ Aside0 (Kd.R k24 24 wc w.heap.size (fun k_ => some k_ ≠ ((.slice (some adz14) tz11.length co18) : Value).ownBlock ∧ some k_ ≠ (u12 : Value).ownBlock) (.slice Ao13 tz5.length co13) tz5) ∧ Aside0 (wc.heap[gbz9]? = some (.cells #[(.slice Ao11 tz2.length co11), (.slice Ao13 tz5.length co13)] 30 (0, 0))) ∧ Aside0 (Below w.heap.size w wc))
  case first =>
   have H := HC36.out
   clear HC36
   by_cases c37 : ((rd_T24 tz11 x15_1).f1) = tz10
   ·rw [if_pos c37] at H
    have c37b0 : (((rd_T24 tz11 x15_1).f1) == tz10) = true := beq_iff_eq.mpr c37
    have c37b1 : (((rd_T24 tz11 x15_1).f1) != tz10) = false := bne_eq_false_iff_eq.mpr c37
    clear c37
    (first | rw [c37b0] | rw [c37b1] | (simp only [i64_w, i32_w]; rw [c37b0]) | skip)
    have H' := am H
    clear H
    have pz22 : 0 ≤ (x15_1 : Int) := of_decide_eq_true (by first | (with_reducible assumption) | assumption)
    have qz22 : x15_1 < (tz11.length : Int) := of_decide_eq_true (by first | (with_reducible assumption) | assumption)
    obtain ⟨adz22, ez22, hxz22_0, hxz22_1, hxz22_2⟩ := at_T24 (Kd.R_reads' HO_11.out).2.2 x15_1 pz22 qz22
    (try rw [← Nbq34.out] at hxz22_0)
    obtain rfl : adz14 = adz22 := (by injection ez22)
    replace pz22 := eq_true pz22
    replace qz22 := eq_true qz22
    go_wp2
    repeat (go_quiet (fail); try go_wp2)
    go_meet
    case rel => exact ⟨_, (false), (by first | rfl | (simp; done) | (simp [*]; done)), H', ⟨by have := HK1.out; have := HJ16.out; have := HJ20.out; have := HJ25.out; first | omega | exact Nat.le_refl _⟩, ⟨by (with_reducible repeat first | apply ra | apply rn | apply rd); exact HO_11.out⟩, ⟨by (with_reducible repeat first | apply ra | apply rn | apply rd); exact HO_12.out⟩, ⟨by (with_reducible repeat first | apply ra | apply rn | apply rd); exact HO_13.out⟩, ⟨by (with_reducible repeat first | apply ra | apply rn | apply rd); exact HO_z10000.out⟩, ⟨by (with_reducible repeat first | apply ra | apply rn | apply rd); exact HO_z10001.out⟩, ⟨by (with_reducible repeat (first | refine blk_drewN ?_ _ | refine blk_drew ?_ | refine blk_alloc ?_ _)); exact BKz9.out⟩, ⟨by repeat first | (with_reducible first | exact HB.out | apply ba | apply bn | apply bd | refine bs (by assumption) ?_) | exact HB.out⟩⟩
   rw [if_neg c37] at H
   have c37b0 : (((rd_T24 tz11 x15_1).f1) == tz10) = false := beq_eq_false_iff_ne.mpr c37
   have c37b1 : (((rd_T24 tz11 x15_1).f1) != tz10) = true := bne_iff_ne.mpr c37
   (first | rw [c37b0] | rw [c37b1] | (simp only [i64_w, i32_w]; rw [c37b0]) | skip)
   have H' := am H
   clear H
   have pz22 : 0 ≤ (x15_1 : Int) := of_decide_eq_true (by first | (with_reducible assumption) | assumption)
   have qz22 : x15_1 < (tz11.length : Int) := of_decide_eq_true (by first | (with_reducible assumption) | assumption)
   obtain ⟨adz22, ez22, hxz22_0, hxz22_1, hxz22_2⟩ := at_T24 (Kd.R_reads' HO_11.out).2.2 x15_1 pz22 qz22
   (try rw [← Nbq34.out] at hxz22_0)
   obtain rfl : adz14 = adz22 := (by injection ez22)
   replace pz22 := eq_true pz22
   replace qz22 := eq_true qz22
   go_wp2
   repeat (go_quiet (fail); try go_wp2)
   go_meet
   case rel => exact ⟨_, (decide (x14_16 < (l2.length : Int))), (by first | rfl | (simp; done) | (simp [*]; done)), H', ⟨by have := HK1.out; have := HJ16.out; have := HJ20.out; have := HJ25.out; first | omega | exact Nat.le_refl _⟩, ⟨by (with_reducible repeat first | apply ra | apply rn | apply rd); exact HO_11.out⟩, ⟨by (with_reducible repeat first | apply ra | apply rn | apply rd); exact HO_12.out⟩, ⟨by (with_reducible repeat first | apply ra | apply rn | apply rd); exact HO_13.out⟩, ⟨by (with_reducible repeat first | apply ra | apply rn | apply rd); exact HO_z10000.out⟩, ⟨by (with_reducible repeat first | apply ra | apply rn | apply rd); exact HO_z10001.out⟩, ⟨by (with_reducible repeat (first | refine blk_drewN ?_ _ | refine blk_drew ?_ | refine blk_alloc ?_ _)); exact BKz9.out⟩, ⟨by repeat first | (with_reducible first | exact HB.out | apply ba | apply bn | apply bd | refine bs (by assumption) ?_) | exact HB.out⟩⟩
  clear HC36
  try clear c1
  try clear q1
  try clear c2
  try clear p2
  try clear q2
  try clear c3
  try clear q3
  try clear c6
  try clear p6
  try clear q6
  try clear hx6
  try clear c15
  try clear c15b0
  try clear c16
  try clear c16b0
  try clear q19
  try clear c20
  try clear c22
  try clear c22b0
  try clear c22b1
  try clear c23
  try clear c23b0
  try clear q24
  try clear c25
  try clear c27
  try clear c28
  try clear c28b0
  try clear c28b1
  try clear c29
  try clear c29b0
  try clear c30
  try clear c32
  try clear c32b0
  try clear c33
  try clear c33b0
  try clear q34
  try clear c35
  try clear c37
  try clear c37b0
  try clear c37b1
  try clear hcz12_0
  try clear hcz12_1
  try clear hfz12_0
  try clear hfz12_1
  try clear hxz14_0
  try clear hxz14_1
  try clear hxz14_2
  try clear hxz15_0
  try clear hxz15_1
  try clear hxz15_2
  try clear hxz16_0
  try clear hxz16_1
  try clear hxz16_2
  try clear hxz17_0
  try clear hxz17_1
  try clear hxz17_2
  try clear hxz21_0
  try clear hxz21_1
  try clear hxz21_2
  try clear hxz22_0
  try clear hxz22_1
  try clear hxz22_2
  try clear p2
  try clear p6
  try clear pz14
  try clear pz15
  try clear pz16
  try clear pz17
  try clear pz21
  try clear pz22
  try clear q1
  try clear q19
  try clear q2
  try clear q24
  try clear q6
  try clear qz14
  try clear qz15
  try clear qz16
  try clear qz17
  try clear qz21
  try clear qz22
  obtain ⟨kq, x88_35, rfl, HA, HJ35, HO_11, HO_12, HO_13, HO_z10000, HO_z10001, BKz9, HB⟩ := hcut
  cases kq with
  | zero => exact absurd HA.out (by simp [columbariumlaw14_DiskBlocks.j4])
  | succ kj35 => ?_
  have H := HA.out
  clear HA
  simp only [columbariumlaw14_DiskBlocks.j4] at H
  by_cases c38 : x88_35 = true
  ·subst c38
   have H1 : (if 0 ≤ x14_16 then (if x14_16 < (l2.length : Int) then (if x13_16.length < 17592186044416 then (columbariumlaw14_DiskBlocks.l0 kj35 l2 tz1 tz8 tz10 tz11 x12_25 (x13_16 ++ [rd l2 x14_16]) (wrap64 (x14_16 + 1)) (wrap64 (x15_1 + 1)) tz2 tz5) else (none)) else (none)) else (none)) = some r := by rw [if_pos rfl] at H; exact H
   clear H
   have H := H1
   clear H1
   by_cases c39 : 0 ≤ x14_16
   rotate_left
   ·rw [if_neg c39] at H
    exact absurd H (by simp)
   rw [if_pos c39] at H
   have c39b0 : decide (0 ≤ x14_16) = true := decide_eq_true c39
   clear c39
   by_cases c40 : x14_16 < (l2.length : Int)
   rotate_left
   ·rw [if_neg c40] at H
    exact absurd H (by simp)
   rw [if_pos c40] at H
   have c40b0 : decide (x14_16 < (l2.length : Int)) = true := decide_eq_true c40
   clear c40
   by_cases c41 : x13_16.length < 17592186044416
   rotate_left
   ·rw [if_neg c41] at H
    exact absurd H (by simp)
   rw [if_pos c41] at H
   have LMc41 := Aside0.mk c41
   clear c41
   obtain ⟨yz24, hyz24⟩ : ∃ y_ : List Int, y_ = (x13_16 ++ [rd l2 x14_16]) := ⟨_, rfl⟩
   replace H : (columbariumlaw14_DiskBlocks.l0 kj35 l2 tz1 tz8 tz10 tz11 x12_25 yz24 (wrap64 (x14_16 + 1)) (wrap64 (x15_1 + 1)) tz2 tz5) = some r := by first | (rw [hyz24]; with_reducible exact H) | (have H2_ := (Option.bind_some _ _).symm.trans H; rw [hyz24]; with_reducible exact H2_) | (have H2_ := (Option.bind_some _ _).symm.trans H; with_reducible exact H2_) | with_reducible exact H | (rw [hyz24]; exact H) | exact H
   have Nyz24 := am hyz24
   clear hyz24
   have H' := am H
   clear H
   have pz23 : 0 ≤ (x14_16 : Int) := of_decide_eq_true (by first | (with_reducible assumption) | assumption)
   have qz23 : x14_16 < (l2.length : Int) := of_decide_eq_true (by first | (with_reducible assumption) | assumption)
   obtain ⟨adz23, ez23, hxz23_0⟩ := Kd.at_int HR2.out x14_16 pz23 qz23
   cases ez23
   replace hxz23_0 := (HB.out.cell (World.block_lt_of_cell? w _ hxz23_0)).trans hxz23_0
   replace pz23 := eq_true pz23
   replace qz23 := eq_true qz23
   go_wp2_with (first | ((with_reducible refine gate_builtin (b := .append) (xs := #[.tmp 89, .tmp 94]) rfl ?_); (try (refine gate_guard (by rfl) ?_; dsimp only)); at_builtin; refine Kd.R_append (Kd.int .i64) (w0 := w) w.heap.size rfl (.tmp 89) (.tmp 94) 25 3 (.int .i64 0) 8 rfl Try.underlying25 info3 rfl (by decide) (by omega) u13 x13_16 (rd l2 x14_16) [.int .i64 (rd l2 x14_16)] (fun _ => True) (fun _ => False) rfl rfl ?aP (fun _ hk => hk.elim) ?aF ?aO ?aB ?aS ?aL ?_; (case aP => exact rfl); (case aB => exact (by repeat first | (with_reducible first | exact HB.out | apply ba | apply bn | apply bd | refine bs (by assumption) ?_) | exact HB.out)); (case aF => exact (fun _ _ => trivial)); (case aO => exact (pr HO_13)); (case aS => exact (below_size (by repeat first | (with_reducible first | exact HB.out | apply ba | apply bn | apply bd | refine bs (by assumption) ?_) | exact HB.out))); (case aL => have := LMc41.out; omega); intro vz25 w42 ho hb hg hat; rw [← Nyz24.out] at ho; have n0_ := am (Kd.R_over' (pr HO_11) (Kd.R_typed (pr HO_13)) (by decide) hg); have n1_ := am (Kd.R_over' (pr HO_12) (Kd.R_typed (pr HO_13)) (by decide) hg); have n2_ := am (Kd.R_over' (pr HO_z10000) (Kd.R_typed (pr HO_13)) (by decide) hg); have n3_ := am (Kd.R_over' (pr HO_z10001) (Kd.R_typed (pr HO_13)) (by decide) hg); have n4_ := am (blk_grown (pk BKz9) hg (Kd.R_ne HO_13.out BKz9.out (by decide))); have n5_ := am (hb); have n6_ := am (ho); clear HO_11; clear HO_12; clear HO_z10000; clear HO_z10001; clear BKz9; clear HB; clear HO_13; have HO_11 := n0_; have HO_12 := n1_; have HO_z10000 := n2_; have HO_z10001 := n3_; have BKz9 := n4_; have HB := n5_; have HOz26 := n6_; clear n0_ n1_ n2_ n3_ n4_ n5_ n6_; clear ho hb hg hat))
   repeat (go_quiet (first | ((with_reducible refine gate_builtin (b := .append) (xs := #[.tmp 89, .tmp 94]) rfl ?_); (try (refine gate_guard (by rfl) ?_; dsimp only)); at_builtin; refine Kd.R_append (Kd.int .i64) (w0 := w) w.heap.size rfl (.tmp 89) (.tmp 94) 25 3 (.int .i64 0) 8 rfl Try.underlying25 info3 rfl (by decide) (by omega) u13 x13_16 (rd l2 x14_16) [.int .i64 (rd l2 x14_16)] (fun _ => True) (fun _ => False) rfl rfl ?aP (fun _ hk => hk.elim) ?aF ?aO ?aB ?aS ?aL ?_; (case aP => exact rfl); (case aB => exact (by repeat first | (with_reducible first | exact HB.out | apply ba | apply bn | apply bd | refine bs (by assumption) ?_) | exact HB.out)); (case aF => exact (fun _ _ => trivial)); (case aO => exact (pr HO_13)); (case aS => exact (below_size (by repeat first | (with_reducible first | exact HB.out | apply ba | apply bn | apply bd | refine bs (by assumption) ?_) | exact HB.out))); (case aL => have := LMc41.out; omega); intro vz25 w42 ho hb hg hat; rw [← Nyz24.out] at ho; have n0_ := am (Kd.R_over' (pr HO_11) (Kd.R_typed (pr HO_13)) (by decide) hg); have n1_ := am (Kd.R_over' (pr HO_12) (Kd.R_typed (pr HO_13)) (by decide) hg); have n2_ := am (Kd.R_over' (pr HO_z10000) (Kd.R_typed (pr HO_13)) (by decide) hg); have n3_ := am (Kd.R_over' (pr HO_z10001) (Kd.R_typed (pr HO_13)) (by decide) hg); have n4_ := am (blk_grown (pk BKz9) hg (Kd.R_ne HO_13.out BKz9.out (by decide))); have n5_ := am (hb); have n6_ := am (ho); clear HO_11; clear HO_12; clear HO_z10000; clear HO_z10001; clear BKz9; clear HB; clear HO_13; have HO_11 := n0_; have HO_12 := n1_; have HO_z10000 := n2_; have HO_z10001 := n3_; have BKz9 := n4_; have HB := n5_; have HOz26 := n6_; clear n0_ n1_ n2_ n3_ n4_ n5_ n6_; clear ho hb hg hat)); try go_wp2_with (first | ((with_reducible refine gate_builtin (b := .append) (xs := #[.tmp 89, .tmp 94]) rfl ?_); (try (refine gate_guard (by rfl) ?_; dsimp only)); at_builtin; refine Kd.R_append (Kd.int .i64) (w0 := w) w.heap.size rfl (.tmp 89) (.tmp 94) 25 3 (.int .i64 0) 8 rfl Try.underlying25 info3 rfl (by decide) (by omega) u13 x13_16 (rd l2 x14_16) [.int .i64 (rd l2 x14_16)] (fun _ => True) (fun _ => False) rfl rfl ?aP (fun _ hk => hk.elim) ?aF ?aO ?aB ?aS ?aL ?_; (case aP => exact rfl); (case aB => exact (by repeat first | (with_reducible first | exact HB.out | apply ba | apply bn | apply bd | refine bs (by assumption) ?_) | exact HB.out)); (case aF => exact (fun _ _ => trivial)); (case aO => exact (pr HO_13)); (case aS => exact (below_size (by repeat first | (with_reducible first | exact HB.out | apply ba | apply bn | apply bd | refine bs (by assumption) ?_) | exact HB.out))); (case aL => have := LMc41.out; omega); intro vz25 w42 ho hb hg hat; rw [← Nyz24.out] at ho; have n0_ := am (Kd.R_over' (pr HO_11) (Kd.R_typed (pr HO_13)) (by decide) hg); have n1_ := am (Kd.R_over' (pr HO_12) (Kd.R_typed (pr HO_13)) (by decide) hg); have n2_ := am (Kd.R_over' (pr HO_z10000) (Kd.R_typed (pr HO_13)) (by decide) hg); have n3_ := am (Kd.R_over' (pr HO_z10001) (Kd.R_typed (pr HO_13)) (by decide) hg); have n4_ := am (blk_grown (pk BKz9) hg (Kd.R_ne HO_13.out BKz9.out (by decide))); have n5_ := am (hb); have n6_ := am (ho); clear HO_11; clear HO_12; clear HO_z10000; clear HO_z10001; clear BKz9; clear HB; clear HO_13; have HO_11 := n0_; have HO_12 := n1_; have HO_z10000 := n2_; have HO_z10001 := n3_; have BKz9 := n4_; have HB := n5_; have HOz26 := n6_; clear n0_ n1_ n2_ n3_ n4_ n5_ n6_; clear ho hb hg hat)))
   go_roundg kj35
   case measure => have := HK1.out; have := HJ16.out; have := HJ20.out; have := HJ25.out; have := HJ35.out; omega
   case rel => exact ⟨(x12_25), (yz24), (wrap64 (x14_16 + 1)), (wrap64 (x15_1 + 1)), (by first | rfl | (simp; done) | (simp [*]; done)), (by first | rfl | (simp; done) | (simp [*]; done)), H', ⟨by have := HK1.out; have := HJ16.out; have := HJ20.out; have := HJ25.out; have := HJ35.out; omega⟩, ⟨by (with_reducible repeat first | apply ra | apply rn | apply rd); exact HO_11.out⟩, ⟨by (with_reducible repeat first | apply ra | apply rn | apply rd); exact HO_12.out⟩, ⟨by (with_reducible repeat first | apply ra | apply rn | apply rd); exact HOz26.out⟩, ⟨by (with_reducible repeat first | apply ra | apply rn | apply rd); exact HO_z10000.out⟩, ⟨by (with_reducible repeat first | apply ra | apply rn | apply rd); exact HO_z10001.out⟩, ⟨by (with_reducible repeat (first | refine blk_drewN ?_ _ | refine blk_drew ?_ | refine blk_alloc ?_ _)); exact BKz9.out⟩, ⟨by repeat first | (with_reducible first | exact HB.out | apply ba | apply bn | apply bd | refine bs (by assumption) ?_) | exact HB.out⟩⟩
  replace c38 := Bool.eq_false_iff.mpr c38
  subst c38
  have H1 : (if 0 ≤ x15_1 then (if x15_1 < (tz11.length : Int) then (if ((rd_T24 tz11 x15_1).f1) = tz10 then (columbariumlaw14_DiskBlocks.l0 kj35 l2 tz1 tz8 tz10 tz11 x12_25 x13_16 (wrap64 (x14_16 + 1)) (wrap64 (x15_1 + 1)) tz2 tz5) else (if x13_16.length < 17592186044416 then (columbariumlaw14_DiskBlocks.l0 kj35 l2 tz1 tz8 tz10 tz11 x12_25 (x13_16 ++ [0]) (wrap64 (x14_16 + 1)) (wrap64 (x15_1 + 1)) tz2 tz5) else (none))) else (none)) else (none)) = some r := by rw [if_neg (show ¬ (false = true) by decide)] at H; exact H
  clear H
  have H := H1
  clear H1
  by_cases c43 : 0 ≤ x15_1
  rotate_left
  ·rw [if_neg c43] at H
   exact absurd H (by simp)
  rw [if_pos c43] at H
  have c43b0 : decide (0 ≤ x15_1) = true := decide_eq_true c43
  clear c43
  by_cases c44 : x15_1 < (tz11.length : Int)
  rotate_left
  ·rw [if_neg c44] at H
   exact absurd H (by simp)
  rw [if_pos c44] at H
  have c44b0 : decide (x15_1 < (tz11.length : Int)) = true := decide_eq_true c44
  clear c44
  by_cases c45 : ((rd_T24 tz11 x15_1).f1) = tz10
  ·rw [if_pos c45] at H
   have c45b0 : (((rd_T24 tz11 x15_1).f1) == tz10) = true := beq_iff_eq.mpr c45
   have c45b1 : (((rd_T24 tz11 x15_1).f1) != tz10) = false := bne_eq_false_iff_eq.mpr c45
   clear c45
   have H' := am H
   clear H
   have pz27 : 0 ≤ (x15_1 : Int) := of_decide_eq_true (by first | (with_reducible assumption) | assumption)
   have qz27 : x15_1 < (tz11.length : Int) := of_decide_eq_true (by first | (with_reducible assumption) | assumption)
   obtain ⟨adz27, ez27, hxz27_0, hxz27_1, hxz27_2⟩ := at_T24 (Kd.R_reads' HO_11.out).2.2 x15_1 pz27 qz27
   (try rw [← Nbq34.out] at hxz27_0)
   obtain rfl : adz14 = adz27 := (by injection ez27)
   replace pz27 := eq_true pz27
   replace qz27 := eq_true qz27
   go_wp2
   repeat (go_quiet (fail); try go_wp2)
   go_roundg kj35
   case measure => have := HK1.out; have := HJ16.out; have := HJ20.out; have := HJ25.out; have := HJ35.out; omega
   case rel => exact ⟨(x12_25), (x13_16), (wrap64 (x14_16 + 1)), (wrap64 (x15_1 + 1)), (by first | rfl | (simp; done) | (simp [*]; done)), (by first | rfl | (simp; done) | (simp [*]; done)), H', ⟨by have := HK1.out; have := HJ16.out; have := HJ20.out; have := HJ25.out; have := HJ35.out; omega⟩, ⟨by (with_reducible repeat first | apply ra | apply rn | apply rd); exact HO_11.out⟩, ⟨by (with_reducible repeat first | apply ra | apply rn | apply rd); exact HO_12.out⟩, ⟨by (with_reducible repeat first | apply ra | apply rn | apply rd); exact HO_13.out⟩, ⟨by (with_reducible repeat first | apply ra | apply rn | apply rd); exact HO_z10000.out⟩, ⟨by (with_reducible repeat first | apply ra | apply rn | apply rd); exact HO_z10001.out⟩, ⟨by (with_reducible repeat (first | refine blk_drewN ?_ _ | refine blk_drew ?_ | refine blk_alloc ?_ _)); exact BKz9.out⟩, ⟨by repeat first | (with_reducible first | exact HB.out | apply ba | apply bn | apply bd | refine bs (by assumption) ?_) | exact HB.out⟩⟩
  rw [if_neg c45] at H
  have c45b0 : (((rd_T24 tz11 x15_1).f1) == tz10) = false := beq_eq_false_iff_ne.mpr c45
  have c45b1 : (((rd_T24 tz11 x15_1).f1) != tz10) = true := bne_iff_ne.mpr c45
  by_cases c46 : x13_16.length < 17592186044416
  rotate_left
  ·rw [if_neg c46] at H
   exact absurd H (by simp)
  rw [if_pos c46] at H
  have LMc46 := Aside0.mk c46
  clear c46
  obtain ⟨yz28, hyz28⟩ : ∃ y_ : List Int, y_ = (x13_16 ++ [0]) := ⟨_, rfl⟩
  replace H : (columbariumlaw14_DiskBlocks.l0 kj35 l2 tz1 tz8 tz10 tz11 x12_25 yz28 (wrap64 (x14_16 + 1)) (wrap64 (x15_1 + 1)) tz2 tz5) = some r := by first | (rw [hyz28]; with_reducible exact H) | (have H2_ := (Option.bind_some _ _).symm.trans H; rw [hyz28]; with_reducible exact H2_) | (have H2_ := (Option.bind_some _ _).symm.trans H; with_reducible exact H2_) | with_reducible exact H | (rw [hyz28]; exact H) | exact H
  have Nyz28 := am hyz28
  clear hyz28
  have H' := am H
  clear H
  have pz27 : 0 ≤ (x15_1 : Int) := of_decide_eq_true (by first | (with_reducible assumption) | assumption)
  have qz27 : x15_1 < (tz11.length : Int) := of_decide_eq_true (by first | (with_reducible assumption) | assumption)
  obtain ⟨adz27, ez27, hxz27_0, hxz27_1, hxz27_2⟩ := at_T24 (Kd.R_reads' HO_11.out).2.2 x15_1 pz27 qz27
  (try rw [← Nbq34.out] at hxz27_0)
  obtain rfl : adz14 = adz27 := (by injection ez27)
  replace pz27 := eq_true pz27
  replace qz27 := eq_true qz27
  go_wp2_with (first | ((with_reducible refine gate_builtin (b := .append) (xs := #[.tmp 103, .tmp 104]) rfl ?_); (try (refine gate_guard (by rfl) ?_; dsimp only)); at_builtin; refine Kd.R_append (Kd.int .i64) (w0 := w) w.heap.size rfl (.tmp 103) (.tmp 104) 25 3 (.int .i64 0) 8 rfl Try.underlying25 info3 rfl (by decide) (by omega) u13 x13_16 0 [.int .i64 0] (fun _ => True) (fun _ => False) rfl rfl ?aP (fun _ hk => hk.elim) ?aF ?aO ?aB ?aS ?aL ?_; (case aP => exact rfl); (case aB => exact (by repeat first | (with_reducible first | exact HB.out | apply ba | apply bn | apply bd | refine bs (by assumption) ?_) | exact HB.out)); (case aF => exact (fun _ _ => trivial)); (case aO => exact (pr HO_13)); (case aS => exact (below_size (by repeat first | (with_reducible first | exact HB.out | apply ba | apply bn | apply bd | refine bs (by assumption) ?_) | exact HB.out))); (case aL => have := LMc46.out; omega); intro vz29 w47 ho hb hg hat; rw [← Nyz28.out] at ho; have n0_ := am (Kd.R_over' (pr HO_11) (Kd.R_typed (pr HO_13)) (by decide) hg); have n1_ := am (Kd.R_over' (pr HO_12) (Kd.R_typed (pr HO_13)) (by decide) hg); have n2_ := am (Kd.R_over' (pr HO_z10000) (Kd.R_typed (pr HO_13)) (by decide) hg); have n3_ := am (Kd.R_over' (pr HO_z10001) (Kd.R_typed (pr HO_13)) (by decide) hg); have n4_ := am (blk_grown (pk BKz9) hg (Kd.R_ne HO_13.out BKz9.out (by decide))); have n5_ := am (hb); have n6_ := am (ho); clear HO_11; clear HO_12; clear HO_z10000; clear HO_z10001; clear BKz9; clear HB; clear HO_13; have HO_11 := n0_; have HO_12 := n1_; have HO_z10000 := n2_; have HO_z10001 := n3_; have BKz9 := n4_; have HB := n5_; have HOz30 := n6_; clear n0_ n1_ n2_ n3_ n4_ n5_ n6_; clear ho hb hg hat))
  repeat (go_quiet (first | ((with_reducible refine gate_builtin (b := .append) (xs := #[.tmp 103, .tmp 104]) rfl ?_); (try (refine gate_guard (by rfl) ?_; dsimp only)); at_builtin; refine Kd.R_append (Kd.int .i64) (w0 := w) w.heap.size rfl (.tmp 103) (.tmp 104) 25 3 (.int .i64 0) 8 rfl Try.underlying25 info3 rfl (by decide) (by omega) u13 x13_16 0 [.int .i64 0] (fun _ => True) (fun _ => False) rfl rfl ?aP (fun _ hk => hk.elim) ?aF ?aO ?aB ?aS ?aL ?_; (case aP => exact rfl); (case aB => exact (by repeat first | (with_reducible first | exact HB.out | apply ba | apply bn | apply bd | refine bs (by assumption) ?_) | exact HB.out)); (case aF => exact (fun _ _ => trivial)); (case aO => exact (pr HO_13)); (case aS => exact (below_size (by repeat first | (with_reducible first | exact HB.out | apply ba | apply bn | apply bd | refine bs (by assumption) ?_) | exact HB.out))); (case aL => have := LMc46.out; omega); intro vz29 w47 ho hb hg hat; rw [← Nyz28.out] at ho; have n0_ := am (Kd.R_over' (pr HO_11) (Kd.R_typed (pr HO_13)) (by decide) hg); have n1_ := am (Kd.R_over' (pr HO_12) (Kd.R_typed (pr HO_13)) (by decide) hg); have n2_ := am (Kd.R_over' (pr HO_z10000) (Kd.R_typed (pr HO_13)) (by decide) hg); have n3_ := am (Kd.R_over' (pr HO_z10001) (Kd.R_typed (pr HO_13)) (by decide) hg); have n4_ := am (blk_grown (pk BKz9) hg (Kd.R_ne HO_13.out BKz9.out (by decide))); have n5_ := am (hb); have n6_ := am (ho); clear HO_11; clear HO_12; clear HO_z10000; clear HO_z10001; clear BKz9; clear HB; clear HO_13; have HO_11 := n0_; have HO_12 := n1_; have HO_z10000 := n2_; have HO_z10001 := n3_; have BKz9 := n4_; have HB := n5_; have HOz30 := n6_; clear n0_ n1_ n2_ n3_ n4_ n5_ n6_; clear ho hb hg hat)); try go_wp2_with (first | ((with_reducible refine gate_builtin (b := .append) (xs := #[.tmp 103, .tmp 104]) rfl ?_); (try (refine gate_guard (by rfl) ?_; dsimp only)); at_builtin; refine Kd.R_append (Kd.int .i64) (w0 := w) w.heap.size rfl (.tmp 103) (.tmp 104) 25 3 (.int .i64 0) 8 rfl Try.underlying25 info3 rfl (by decide) (by omega) u13 x13_16 0 [.int .i64 0] (fun _ => True) (fun _ => False) rfl rfl ?aP (fun _ hk => hk.elim) ?aF ?aO ?aB ?aS ?aL ?_; (case aP => exact rfl); (case aB => exact (by repeat first | (with_reducible first | exact HB.out | apply ba | apply bn | apply bd | refine bs (by assumption) ?_) | exact HB.out)); (case aF => exact (fun _ _ => trivial)); (case aO => exact (pr HO_13)); (case aS => exact (below_size (by repeat first | (with_reducible first | exact HB.out | apply ba | apply bn | apply bd | refine bs (by assumption) ?_) | exact HB.out))); (case aL => have := LMc46.out; omega); intro vz29 w47 ho hb hg hat; rw [← Nyz28.out] at ho; have n0_ := am (Kd.R_over' (pr HO_11) (Kd.R_typed (pr HO_13)) (by decide) hg); have n1_ := am (Kd.R_over' (pr HO_12) (Kd.R_typed (pr HO_13)) (by decide) hg); have n2_ := am (Kd.R_over' (pr HO_z10000) (Kd.R_typed (pr HO_13)) (by decide) hg); have n3_ := am (Kd.R_over' (pr HO_z10001) (Kd.R_typed (pr HO_13)) (by decide) hg); have n4_ := am (blk_grown (pk BKz9) hg (Kd.R_ne HO_13.out BKz9.out (by decide))); have n5_ := am (hb); have n6_ := am (ho); clear HO_11; clear HO_12; clear HO_z10000; clear HO_z10001; clear BKz9; clear HB; clear HO_13; have HO_11 := n0_; have HO_12 := n1_; have HO_z10000 := n2_; have HO_z10001 := n3_; have BKz9 := n4_; have HB := n5_; have HOz30 := n6_; clear n0_ n1_ n2_ n3_ n4_ n5_ n6_; clear ho hb hg hat)))
  go_roundg kj35
  case measure => have := HK1.out; have := HJ16.out; have := HJ20.out; have := HJ25.out; have := HJ35.out; omega
  case rel => exact ⟨(x12_25), (yz28), (wrap64 (x14_16 + 1)), (wrap64 (x15_1 + 1)), (by first | rfl | (simp; done) | (simp [*]; done)), (by first | rfl | (simp; done) | (simp [*]; done)), H', ⟨by have := HK1.out; have := HJ16.out; have := HJ20.out; have := HJ25.out; have := HJ35.out; omega⟩, ⟨by (with_reducible repeat first | apply ra | apply rn | apply rd); exact HO_11.out⟩, ⟨by (with_reducible repeat first | apply ra | apply rn | apply rd); exact HO_12.out⟩, ⟨by (with_reducible repeat first | apply ra | apply rn | apply rd); exact HOz30.out⟩, ⟨by (with_reducible repeat first | apply ra | apply rn | apply rd); exact HO_z10000.out⟩, ⟨by (with_reducible repeat first | apply ra | apply rn | apply rd); exact HO_z10001.out⟩, ⟨by (with_reducible repeat (first | refine blk_drewN ?_ _ | refine blk_drew ?_ | refine blk_alloc ?_ _)); exact BKz9.out⟩, ⟨by repeat first | (with_reducible first | exact HB.out | apply ba | apply bn | apply bd | refine bs (by assumption) ?_) | exact HB.out⟩⟩
 rw [if_neg c15] at H
 have c15b0 : decide (x15_1 < (tz11.length : Int)) = false := decide_eq_false c15
 clear c15
 replace H := ob_ H
 obtain ⟨⟨tz31, tz34, tz37⟩, A480, H⟩ := H
 replace H : ((disk_Do.f tz2 tz5 x12_1).bind fun btz39 => ((disk_Crash.f tz31 tz34 l2).bind fun btz47 => ((disk_Crash.f btz39.1 btz39.2.1 x13_1).bind fun btz55 => (if tz8 = 0 then (if tz37 = 0 then (if btz39.2.2 = 0 then (if btz47.2.2 = 0 then (if btz55.2.2 = 0 then (if (btz47.1.length : Int) = 6 then (columbariumlaw14_DiskBlocks.j5 k1 tz1 tz10 ((btz55.1.length : Int) != 6) tz31 tz34 btz39.1 btz39.2.1 btz47.1 btz47.2.1 btz55.1 btz55.2.1) else (columbariumlaw14_DiskBlocks.j5 k1 tz1 tz10 true tz31 tz34 btz39.1 btz39.2.1 btz47.1 btz47.2.1 btz55.1 btz55.2.1)) else (columbariumlaw14_DiskBlocks.j5 k1 tz1 tz10 true tz31 tz34 btz39.1 btz39.2.1 btz47.1 btz47.2.1 btz55.1 btz55.2.1)) else (columbariumlaw14_DiskBlocks.j5 k1 tz1 tz10 true tz31 tz34 btz39.1 btz39.2.1 btz47.1 btz47.2.1 btz55.1 btz55.2.1)) else (columbariumlaw14_DiskBlocks.j5 k1 tz1 tz10 true tz31 tz34 btz39.1 btz39.2.1 btz47.1 btz47.2.1 btz55.1 btz55.2.1)) else (columbariumlaw14_DiskBlocks.j5 k1 tz1 tz10 true tz31 tz34 btz39.1 btz39.2.1 btz47.1 btz47.2.1 btz55.1 btz55.2.1)) else (columbariumlaw14_DiskBlocks.j5 k1 tz1 tz10 true tz31 tz34 btz39.1 btz39.2.1 btz47.1 btz47.2.1 btz55.1 btz55.2.1))))) = some r := H
 have A48 := Aside0.mk A480
 clear A480
 replace H := ob_ H
 obtain ⟨⟨tz39, tz42, tz45⟩, A490, H⟩ := H
 replace H : ((disk_Crash.f tz31 tz34 l2).bind fun btz47 => ((disk_Crash.f tz39 tz42 x13_1).bind fun btz55 => (if tz8 = 0 then (if tz37 = 0 then (if tz45 = 0 then (if btz47.2.2 = 0 then (if btz55.2.2 = 0 then (if (btz47.1.length : Int) = 6 then (columbariumlaw14_DiskBlocks.j5 k1 tz1 tz10 ((btz55.1.length : Int) != 6) tz31 tz34 tz39 tz42 btz47.1 btz47.2.1 btz55.1 btz55.2.1) else (columbariumlaw14_DiskBlocks.j5 k1 tz1 tz10 true tz31 tz34 tz39 tz42 btz47.1 btz47.2.1 btz55.1 btz55.2.1)) else (columbariumlaw14_DiskBlocks.j5 k1 tz1 tz10 true tz31 tz34 tz39 tz42 btz47.1 btz47.2.1 btz55.1 btz55.2.1)) else (columbariumlaw14_DiskBlocks.j5 k1 tz1 tz10 true tz31 tz34 tz39 tz42 btz47.1 btz47.2.1 btz55.1 btz55.2.1)) else (columbariumlaw14_DiskBlocks.j5 k1 tz1 tz10 true tz31 tz34 tz39 tz42 btz47.1 btz47.2.1 btz55.1 btz55.2.1)) else (columbariumlaw14_DiskBlocks.j5 k1 tz1 tz10 true tz31 tz34 tz39 tz42 btz47.1 btz47.2.1 btz55.1 btz55.2.1)) else (columbariumlaw14_DiskBlocks.j5 k1 tz1 tz10 true tz31 tz34 tz39 tz42 btz47.1 btz47.2.1 btz55.1 btz55.2.1)))) = some r := H
 have A49 := Aside0.mk A490
 clear A490
 replace H := ob_ H
 obtain ⟨⟨tz47, tz50, tz53⟩, A500, H⟩ := H
 replace H : ((disk_Crash.f tz39 tz42 x13_1).bind fun btz55 => (if tz8 = 0 then (if tz37 = 0 then (if tz45 = 0 then (if tz53 = 0 then (if btz55.2.2 = 0 then (if (tz47.length : Int) = 6 then (columbariumlaw14_DiskBlocks.j5 k1 tz1 tz10 ((btz55.1.length : Int) != 6) tz31 tz34 tz39 tz42 tz47 tz50 btz55.1 btz55.2.1) else (columbariumlaw14_DiskBlocks.j5 k1 tz1 tz10 true tz31 tz34 tz39 tz42 tz47 tz50 btz55.1 btz55.2.1)) else (columbariumlaw14_DiskBlocks.j5 k1 tz1 tz10 true tz31 tz34 tz39 tz42 tz47 tz50 btz55.1 btz55.2.1)) else (columbariumlaw14_DiskBlocks.j5 k1 tz1 tz10 true tz31 tz34 tz39 tz42 tz47 tz50 btz55.1 btz55.2.1)) else (columbariumlaw14_DiskBlocks.j5 k1 tz1 tz10 true tz31 tz34 tz39 tz42 tz47 tz50 btz55.1 btz55.2.1)) else (columbariumlaw14_DiskBlocks.j5 k1 tz1 tz10 true tz31 tz34 tz39 tz42 tz47 tz50 btz55.1 btz55.2.1)) else (columbariumlaw14_DiskBlocks.j5 k1 tz1 tz10 true tz31 tz34 tz39 tz42 tz47 tz50 btz55.1 btz55.2.1))) = some r := H
 have A50 := Aside0.mk A500
 clear A500
 replace H := ob_ H
 obtain ⟨⟨tz55, tz58, tz61⟩, A510, H⟩ := H
 replace H : (if tz8 = 0 then (if tz37 = 0 then (if tz45 = 0 then (if tz53 = 0 then (if tz61 = 0 then (if (tz47.length : Int) = 6 then (columbariumlaw14_DiskBlocks.j5 k1 tz1 tz10 ((tz55.length : Int) != 6) tz31 tz34 tz39 tz42 tz47 tz50 tz55 tz58) else (columbariumlaw14_DiskBlocks.j5 k1 tz1 tz10 true tz31 tz34 tz39 tz42 tz47 tz50 tz55 tz58)) else (columbariumlaw14_DiskBlocks.j5 k1 tz1 tz10 true tz31 tz34 tz39 tz42 tz47 tz50 tz55 tz58)) else (columbariumlaw14_DiskBlocks.j5 k1 tz1 tz10 true tz31 tz34 tz39 tz42 tz47 tz50 tz55 tz58)) else (columbariumlaw14_DiskBlocks.j5 k1 tz1 tz10 true tz31 tz34 tz39 tz42 tz47 tz50 tz55 tz58)) else (columbariumlaw14_DiskBlocks.j5 k1 tz1 tz10 true tz31 tz34 tz39 tz42 tz47 tz50 tz55 tz58)) else (columbariumlaw14_DiskBlocks.j5 k1 tz1 tz10 true tz31 tz34 tz39 tz42 tz47 tz50 tz55 tz58)) = some r := H
 have A51 := Aside0.mk A510
 clear A510
 have HC52 := am H
 clear H
 obtain ⟨Ao53, co53, eo53⟩ := Kd.R_slice HO_11.out
 subst eo53
 obtain ⟨hcz54_0, hcz54_1⟩ := bc2 BKz9
 obtain ⟨hfz54_0, hfz54_1⟩ := bf2 BKz9
 go_upto_region 26 with (first | (go_at_call 25; (with_reducible refine (disk_Do.calls _ _ tz2 _ _ tz5 _ _ tz11 tz31 tz34 tz37 _ ?side1 ?side2 ?side3 ?side4 ?side5 ?side6 A48.out).mono ?_); (case side1 => repeat (first | exact (Kd.R_reads' HO_z10000.out).2.2 | (with_reducible refine Kd.C_alloc ?_ _) | (with_reducible refine Kd.C_drewN ?_ _) | (with_reducible refine Kd.C_drew ?_))); (case side2 => exact (Kd.R_reads' HO_z10000.out).2.1); (case side3 => repeat (first | exact (Kd.R_reads' HO_z10001.out).2.2 | (with_reducible refine Kd.C_alloc ?_ _) | (with_reducible refine Kd.C_drewN ?_ _) | (with_reducible refine Kd.C_drew ?_))); (case side4 => exact (Kd.R_reads' HO_z10001.out).2.1); (case side5 => repeat (first | exact (Kd.R_reads' HO_11.out).2.2 | (with_reducible refine Kd.C_alloc ?_ _) | (with_reducible refine Kd.C_drewN ?_ _) | (with_reducible refine Kd.C_drew ?_))); (case side6 => exact (Kd.R_reads' HO_11.out).2.1); rintro e w55 ⟨vz32, vz35, rfl, ho0, ho1, hb⟩; have n0_ := am (Kd.R_elder' (pr HO_11) (Kd.R_base ho1) hb); have n1_ := am (Kd.R_elder' (pr HO_12) (Kd.R_base ho1) hb); have n2_ := am (Kd.R_below (pr HO_13) hb); have n3_ := am (Kd.R_elder' (pr HO_z10000) (Kd.R_base ho0) hb); have n4_ := am (Kd.R_elder' (pr HO_z10001) (Kd.R_base ho1) hb); have n5_ := am (Kd.R_lower (Kd.R_new' ho0 (Kd.R_lt (pr HO_z10000))) (below_size (by repeat first | (with_reducible first | exact HB.out | apply ba | apply bn | apply bd | refine bs (by assumption) ?_) | exact HB.out))); have n6_ := am (Kd.R_lower (Kd.R_new' (Kd.R_new' (Kd.R_new' ho1 (Kd.R_lt (pr HO_11))) (Kd.R_lt (pr HO_12))) (Kd.R_lt (pr HO_z10001))) (below_size (by repeat first | (with_reducible first | exact HB.out | apply ba | apply bn | apply bd | refine bs (by assumption) ?_) | exact HB.out))); have n7_ := am (blk_below (pk BKz9) hb); have n8_ := am (below_step (by repeat first | (with_reducible first | exact HB.out | apply ba | apply bn | apply bd | refine bs (by assumption) ?_) | exact HB.out) hb); clear HO_11; clear HO_12; clear HO_13; clear HO_z10000; clear HO_z10001; clear BKz9; clear HB; have HO_11 := n0_; have HO_12 := n1_; have HO_13 := n2_; have HO_z10000 := n3_; have HO_z10001 := n4_; have HOz33 := n5_; have HOz36 := n6_; have BKz9 := n7_; have HB := n8_; clear n0_ n1_ n2_ n3_ n4_ n5_ n6_ n7_ n8_; (try clear ho1)) | ((with_reducible refine gate_dst (N := 16) rfl ?_); (try (refine gate_guard (by rfl) ?_; dsimp only)); refine box_event ?hg (N := 16) ?hd (cs := #[.slice none 0 0, .slice none 0 0]) (t := 30) ?hr ?_; (case hd => rfl); (case hg => rfl); (case hr => first | (go_simp; done) | (go_simp; rfl)); intro gbz38 hg w56 hbox hb; have n0_ := am (Kd.R_below (pr HO_11) hb); have n1_ := am (Kd.R_below (pr HO_12) hb); have n2_ := am (Kd.R_below (pr HO_13) hb); have n3_ := am (Kd.R_below (pr HO_z10000) hb); have n4_ := am (Kd.R_below (pr HO_z10001) hb); have n5_ := am (Kd.R_below (pr HOz33) hb); have n6_ := am (Kd.R_below (pr HOz36) hb); have n7_ := am (blk_below (pk BKz9) hb); have n8_ := am (below_step (by repeat first | (with_reducible first | exact HB.out | apply ba | apply bn | apply bd | refine bs (by assumption) ?_) | exact HB.out) hb); have n9_ := am (hbox); have n10_ := ge_ hg (by repeat first | (with_reducible first | exact HB.out | apply ba | apply bn | apply bd | refine bs (by assumption) ?_) | exact HB.out); have n11_ := ge_ hg (by repeat first | (with_reducible first | exact HB.out | apply ba | apply bn | apply bd | refine bs (by assumption) ?_) | exact HB.out); have n12_ := nl_ hg BKz9; have n13_ := ng_ hg BKz9; clear HO_11; clear HO_12; clear HO_13; clear HO_z10000; clear HO_z10001; clear HOz33; clear HOz36; clear BKz9; clear HB; have HO_11 := n0_; have HO_12 := n1_; have HO_13 := n2_; have HO_z10000 := n3_; have HO_z10001 := n4_; have HOz33 := n5_; have HOz36 := n6_; have BKz9 := n7_; have HB := n8_; have BKz38 := n9_; have GWz38 := n10_; have GEz38 := n11_; have NBz9_z38 := n12_; have NBz38_z9 := n13_; clear n0_ n1_ n2_ n3_ n4_ n5_ n6_ n7_ n8_ n9_ n10_ n11_ n12_ n13_; clear hb hbox hg; obtain ⟨Ao57, co57, eo57⟩ := Kd.R_slice HOz33.out; subst eo57; have hnb58 := NBz38_z9.out; have hnc58 := NBz9_z38.out; obtain ⟨hcz59_0, hcz59_1⟩ := bc2 BKz38; obtain ⟨hfz59_0, hfz59_1⟩ := bf2 BKz38; obtain ⟨Ao60, co60, eo60⟩ := Kd.R_slice HOz36.out; subst eo60; obtain ⟨hcz61_0, hcz61_1⟩ := bc2 BKz9; obtain ⟨hfz61_0, hfz61_1⟩ := bf2 BKz9; obtain ⟨Ao62, co62, eo62⟩ := Kd.R_slice HO_12.out; subst eo62) | (go_at_call 25; (with_reducible refine (disk_Do.calls _ _ tz2 _ _ tz5 _ _ x12_1 tz39 tz42 tz45 _ ?side1 ?side2 ?side3 ?side4 ?side5 ?side6 A49.out).mono ?_); (case side1 => refine (Kd.R_reads' (e := 9) (base := w.heap.size) (ok := fun k_ => (True ∧ some k_ ≠ (.slice Ao57 tz31.length co57 : Value).ownBlock)) (n := tz2.length) (c := co11) ?_).2.2; exact (by (with_reducible repeat first | apply ra | apply rn | apply rd); exact (rs2 HO_z10000 BKz38 (by decide)))); (case side2 => exact (Kd.R_reads' HO_z10000.out).2.1); (case side3 => refine (Kd.R_reads' (e := 24) (base := w.heap.size) (ok := fun k_ => ((some k_ ≠ (.slice Ao53 tz11.length co53 : Value).ownBlock ∧ some k_ ≠ (.slice Ao62 x12_1.length co62 : Value).ownBlock) ∧ some k_ ≠ (.slice Ao60 tz34.length co60 : Value).ownBlock)) (n := tz5.length) (c := co13) ?_).2.2; exact (by (with_reducible repeat first | apply ra | apply rn | apply rd); exact (rs2 HO_z10001 BKz38 (by decide)))); (case side4 => exact (Kd.R_reads' HO_z10001.out).2.1); (case side5 => refine (Kd.R_reads' (e := 24) (base := w.heap.size) (ok := fun k_ => ((some k_ ≠ (.slice Ao53 tz11.length co53 : Value).ownBlock ∧ some k_ ≠ (.slice Ao13 tz5.length co13 : Value).ownBlock) ∧ some k_ ≠ (.slice Ao60 tz34.length co60 : Value).ownBlock)) (n := x12_1.length) (c := co62) ?_).2.2; exact (by (with_reducible repeat first | apply ra | apply rn | apply rd); exact (rs2 HO_12 BKz38 (by decide)))); (case side6 => exact (Kd.R_reads' HO_12.out).2.1); rintro e w63 ⟨vz40, vz43, rfl, ho0, ho1, hb⟩; have n0_ := am (Kd.R_elder' (by (with_reducible repeat first | apply ra | apply rn | apply rd); exact (rs2 HO_11 BKz38 (by decide))) (Kd.R_base ho1) hb); have n1_ := am (Kd.R_elder' (by (with_reducible repeat first | apply ra | apply rn | apply rd); exact (rs2 HO_12 BKz38 (by decide))) (Kd.R_base ho1) hb); have n2_ := am (Kd.R_below (by (with_reducible repeat first | apply ra | apply rn | apply rd); exact (rs2 HO_13 BKz38 (by decide))) hb); have n3_ := am (Kd.R_elder' (by (with_reducible repeat first | apply ra | apply rn | apply rd); exact (rs2 HO_z10000 BKz38 (by decide))) (Kd.R_base ho0) hb); have n4_ := am (Kd.R_elder' (by (with_reducible repeat first | apply ra | apply rn | apply rd); exact (rs2 HO_z10001 BKz38 (by decide))) (Kd.R_base ho1) hb); have n5_ := am (Kd.R_elder' (by (with_reducible repeat first | apply ra | apply rn | apply rd); exact (rs2 HOz33 BKz38 (by decide))) (Kd.R_base ho0) hb); have n6_ := am (Kd.R_elder' (by (with_reducible repeat first | apply ra | apply rn | apply rd); exact (rs2 HOz36 BKz38 (by decide))) (Kd.R_base ho1) hb); have n7_ := am (Kd.R_lower (Kd.R_new' (Kd.R_new' ho0 (Kd.R_lt (by (with_reducible repeat first | apply ra | apply rn | apply rd); exact (rs2 HO_z10000 BKz38 (by decide))))) (Kd.R_lt (by (with_reducible repeat first | apply ra | apply rn | apply rd); exact (rs2 HOz33 BKz38 (by decide))))) (below_size (by repeat first | (with_reducible first | exact HB.out | apply ba | apply bn | apply bd | refine bs (by assumption) ?_) | exact HB.out))); have n8_ := am (Kd.R_lower (Kd.R_new' (Kd.R_new' (Kd.R_new' (Kd.R_new' ho1 (Kd.R_lt (by (with_reducible repeat first | apply ra | apply rn | apply rd); exact (rs2 HO_11 BKz38 (by decide))))) (Kd.R_lt (by (with_reducible repeat first | apply ra | apply rn | apply rd); exact (rs2 HO_12 BKz38 (by decide))))) (Kd.R_lt (by (with_reducible repeat first | apply ra | apply rn | apply rd); exact (rs2 HO_z10001 BKz38 (by decide))))) (Kd.R_lt (by (with_reducible repeat first | apply ra | apply rn | apply rd); exact (rs2 HOz36 BKz38 (by decide))))) (below_size (by repeat first | (with_reducible first | exact HB.out | apply ba | apply bn | apply bd | refine bs (by assumption) ?_) | exact HB.out))); have n9_ := am (blk_below (g := gbz9) (o := .cells #[.slice Ao11 tz2.length co11, .slice Ao13 tz5.length co13] 30 (0, 0)) (by (with_reducible repeat (first | refine blk_drewN ?_ _ | refine blk_drew ?_ | refine blk_alloc ?_ _)); refine blk_far ?_ NBz9_z38.out _; refine blk_far ?_ NBz9_z38.out _; exact pk BKz9) hb); have n10_ := am (blk_below (g := gbz38) (o := .cells #[.slice Ao57 tz31.length co57, .slice Ao60 tz34.length co60] 30 (0, 0)) (by (with_reducible repeat (first | refine blk_drewN ?_ _ | refine blk_drew ?_ | refine blk_alloc ?_ _)); apply bp2; exact pk BKz38) hb); have n11_ := am (below_step (by repeat first | (with_reducible first | exact HB.out | apply ba | apply bn | apply bd | refine bs (by assumption) ?_) | exact HB.out) hb); clear HO_11; clear HO_12; clear HO_13; clear HO_z10000; clear HO_z10001; clear HOz33; clear HOz36; clear BKz9; clear BKz38; clear HB; have HO_11 := n0_; have HO_12 := n1_; have HO_13 := n2_; have HO_z10000 := n3_; have HO_z10001 := n4_; have HOz33 := n5_; have HOz36 := n6_; have HOz41 := n7_; have HOz44 := n8_; have BKz9 := n9_; have BKz38 := n10_; have HB := n11_; clear n0_ n1_ n2_ n3_ n4_ n5_ n6_ n7_ n8_ n9_ n10_ n11_; (try clear ho1)) | ((with_reducible refine gate_dst (N := 18) rfl ?_); (try (refine gate_guard (by rfl) ?_; dsimp only)); refine box_event ?hg (N := 18) ?hd (cs := #[.slice none 0 0, .slice none 0 0]) (t := 30) ?hr ?_; (case hd => rfl); (case hg => rfl); (case hr => first | (go_simp; done) | (go_simp; rfl)); intro gbz46 hg w64 hbox hb; have n0_ := am (Kd.R_below (pr HO_11) hb); have n1_ := am (Kd.R_below (pr HO_12) hb); have n2_ := am (Kd.R_below (pr HO_13) hb); have n3_ := am (Kd.R_below (pr HO_z10000) hb); have n4_ := am (Kd.R_below (pr HO_z10001) hb); have n5_ := am (Kd.R_below (pr HOz33) hb); have n6_ := am (Kd.R_below (pr HOz36) hb); have n7_ := am (Kd.R_below (pr HOz41) hb); have n8_ := am (Kd.R_below (pr HOz44) hb); have n9_ := am (blk_below (pk BKz9) hb); have n10_ := am (blk_below (pk BKz38) hb); have n11_ := am (below_step (by repeat first | (with_reducible first | exact HB.out | apply ba | apply bn | apply bd | refine bs (by assumption) ?_) | exact HB.out) hb); have n12_ := am (hbox); have n13_ := ge_ hg (by repeat first | (with_reducible first | exact HB.out | apply ba | apply bn | apply bd | refine bs (by assumption) ?_) | exact HB.out); have n14_ := ge_ hg (by repeat first | (with_reducible first | exact HB.out | apply ba | apply bn | apply bd | refine bs (by assumption) ?_) | exact HB.out); have n15_ := nl_ hg BKz9; have n16_ := ng_ hg BKz9; have n17_ := nl_ hg BKz38; have n18_ := ng_ hg BKz38; clear HO_11; clear HO_12; clear HO_13; clear HO_z10000; clear HO_z10001; clear HOz33; clear HOz36; clear HOz41; clear HOz44; clear BKz9; clear BKz38; clear HB; have HO_11 := n0_; have HO_12 := n1_; have HO_13 := n2_; have HO_z10000 := n3_; have HO_z10001 := n4_; have HOz33 := n5_; have HOz36 := n6_; have HOz41 := n7_; have HOz44 := n8_; have BKz9 := n9_; have BKz38 := n10_; have HB := n11_; have BKz46 := n12_; have GWz46 := n13_; have GEz46 := n14_; have NBz9_z46 := n15_; have NBz46_z9 := n16_; have NBz38_z46 := n17_; have NBz46_z38 := n18_; clear n0_ n1_ n2_ n3_ n4_ n5_ n6_ n7_ n8_ n9_ n10_ n11_ n12_ n13_ n14_ n15_ n16_ n17_ n18_; clear hb hbox hg; obtain ⟨Ao65, co65, eo65⟩ := Kd.R_slice HOz41.out; subst eo65; have hnb66 := NBz46_z9.out; have hnc66 := NBz9_z46.out; have hnb67 := NBz46_z38.out; have hnc67 := NBz38_z46.out; obtain ⟨hcz68_0, hcz68_1⟩ := bc2 BKz46; obtain ⟨hfz68_0, hfz68_1⟩ := bf2 BKz46; obtain ⟨Ao69, co69, eo69⟩ := Kd.R_slice HOz44.out; subst eo69; obtain ⟨hcz70_0, hcz70_1⟩ := bc2 BKz38; obtain ⟨hfz70_0, hfz70_1⟩ := bf2 BKz38) | (go_at_call 26; (with_reducible refine (disk_Crash.calls _ _ tz31 _ _ tz34 _ _ l2 tz47 tz50 tz53 _ ?side1 ?side2 ?side3 ?side4 ?side5 ?side6 A50.out).mono ?_); (case side1 => refine (Kd.R_reads' (e := 9) (base := w.heap.size) (ok := fun k_ => ((True ∧ some k_ ≠ (.slice Ao11 tz2.length co11 : Value).ownBlock) ∧ some k_ ≠ (.slice Ao65 tz39.length co65 : Value).ownBlock)) (n := tz31.length) (c := co57) ?_).2.2; exact (by (with_reducible repeat first | apply ra | apply rn | apply rd); exact (rs2 HOz33 BKz46 (by decide)))); (case side2 => exact (Kd.R_reads' HOz33.out).2.1); (case side3 => refine (Kd.R_reads' (e := 24) (base := w.heap.size) (ok := fun k_ => ((((True ∧ some k_ ≠ (.slice Ao53 tz11.length co53 : Value).ownBlock) ∧ some k_ ≠ (.slice Ao62 x12_1.length co62 : Value).ownBlock) ∧ some k_ ≠ (.slice Ao13 tz5.length co13 : Value).ownBlock) ∧ some k_ ≠ (.slice Ao69 tz42.length co69 : Value).ownBlock)) (n := tz34.length) (c := co60) ?_).2.2; exact (by (with_reducible repeat first | apply ra | apply rn | apply rd); exact (rs2 HOz36 BKz46 (by decide)))); (case side4 => exact (Kd.R_reads' HOz36.out).2.1); (case side5 => exact Kd.C_below HR2.out (by repeat first | (with_reducible first | exact HB.out | apply ba | apply bn | apply bd | refine bs (by assumption) ?_) | exact HB.out)); (case side6 => exact HC2.out); rintro e w71 ⟨vz48, vz51, rfl, ho0, ho1, hb⟩; have n0_ := am (Kd.R_elder' (by (with_reducible repeat first | apply ra | apply rn | apply rd); exact (rs2 HO_11 BKz46 (by decide))) (Kd.R_base ho1) hb); have n1_ := am (Kd.R_elder' (by (with_reducible repeat first | apply ra | apply rn | apply rd); exact (rs2 HO_12 BKz46 (by decide))) (Kd.R_base ho1) hb); have n2_ := am (Kd.R_below (by (with_reducible repeat first | apply ra | apply rn | apply rd); exact (rs2 HO_13 BKz46 (by decide))) hb); have n3_ := am (Kd.R_elder' (by (with_reducible repeat first | apply ra | apply rn | apply rd); exact (rs2 HO_z10000 BKz46 (by decide))) (Kd.R_base ho0) hb); have n4_ := am (Kd.R_elder' (by (with_reducible repeat first | apply ra | apply rn | apply rd); exact (rs2 HO_z10001 BKz46 (by decide))) (Kd.R_base ho1) hb); have n5_ := am (Kd.R_elder' (by (with_reducible repeat first | apply ra | apply rn | apply rd); exact (rs2 HOz33 BKz46 (by decide))) (Kd.R_base ho0) hb); have n6_ := am (Kd.R_elder' (by (with_reducible repeat first | apply ra | apply rn | apply rd); exact (rs2 HOz36 BKz46 (by decide))) (Kd.R_base ho1) hb); have n7_ := am (Kd.R_elder' (by (with_reducible repeat first | apply ra | apply rn | apply rd); exact (rs2 HOz41 BKz46 (by decide))) (Kd.R_base ho0) hb); have n8_ := am (Kd.R_elder' (by (with_reducible repeat first | apply ra | apply rn | apply rd); exact (rs2 HOz44 BKz46 (by decide))) (Kd.R_base ho1) hb); have n9_ := am (Kd.R_lower (Kd.R_new' (Kd.R_new' (Kd.R_new' ho0 (Kd.R_lt (by (with_reducible repeat first | apply ra | apply rn | apply rd); exact (rs2 HO_z10000 BKz46 (by decide))))) (Kd.R_lt (by (with_reducible repeat first | apply ra | apply rn | apply rd); exact (rs2 HOz33 BKz46 (by decide))))) (Kd.R_lt (by (with_reducible repeat first | apply ra | apply rn | apply rd); exact (rs2 HOz41 BKz46 (by decide))))) (below_size (by repeat first | (with_reducible first | exact HB.out | apply ba | apply bn | apply bd | refine bs (by assumption) ?_) | exact HB.out))); have n10_ := am (Kd.R_lower (Kd.R_new' (Kd.R_new' (Kd.R_new' (Kd.R_new' (Kd.R_new' ho1 (Kd.R_lt (by (with_reducible repeat first | apply ra | apply rn | apply rd); exact (rs2 HO_11 BKz46 (by decide))))) (Kd.R_lt (by (with_reducible repeat first | apply ra | apply rn | apply rd); exact (rs2 HO_12 BKz46 (by decide))))) (Kd.R_lt (by (with_reducible repeat first | apply ra | apply rn | apply rd); exact (rs2 HO_z10001 BKz46 (by decide))))) (Kd.R_lt (by (with_reducible repeat first | apply ra | apply rn | apply rd); exact (rs2 HOz36 BKz46 (by decide))))) (Kd.R_lt (by (with_reducible repeat first | apply ra | apply rn | apply rd); exact (rs2 HOz44 BKz46 (by decide))))) (below_size (by repeat first | (with_reducible first | exact HB.out | apply ba | apply bn | apply bd | refine bs (by assumption) ?_) | exact HB.out))); have n11_ := am (blk_below (g := gbz9) (o := .cells #[.slice Ao11 tz2.length co11, .slice Ao13 tz5.length co13] 30 (0, 0)) (by (with_reducible repeat (first | refine blk_drewN ?_ _ | refine blk_drew ?_ | refine blk_alloc ?_ _)); refine blk_far ?_ NBz9_z46.out _; refine blk_far ?_ NBz9_z46.out _; exact pk BKz9) hb); have n12_ := am (blk_below (g := gbz38) (o := .cells #[.slice Ao57 tz31.length co57, .slice Ao60 tz34.length co60] 30 (0, 0)) (by (with_reducible repeat (first | refine blk_drewN ?_ _ | refine blk_drew ?_ | refine blk_alloc ?_ _)); refine blk_far ?_ NBz38_z46.out _; refine blk_far ?_ NBz38_z46.out _; exact pk BKz38) hb); have n13_ := am (blk_below (g := gbz46) (o := .cells #[.slice Ao65 tz39.length co65, .slice Ao69 tz42.length co69] 30 (0, 0)) (by (with_reducible repeat (first | refine blk_drewN ?_ _ | refine blk_drew ?_ | refine blk_alloc ?_ _)); apply bp2; exact pk BKz46) hb); have n14_ := am (below_step (by repeat first | (with_reducible first | exact HB.out | apply ba | apply bn | apply bd | refine bs (by assumption) ?_) | exact HB.out) hb); clear HO_11; clear HO_12; clear HO_13; clear HO_z10000; clear HO_z10001; clear HOz33; clear HOz36; clear HOz41; clear HOz44; clear BKz9; clear BKz38; clear BKz46; clear HB; have HO_11 := n0_; have HO_12 := n1_; have HO_13 := n2_; have HO_z10000 := n3_; have HO_z10001 := n4_; have HOz33 := n5_; have HOz36 := n6_; have HOz41 := n7_; have HOz44 := n8_; have HOz49 := n9_; have HOz52 := n10_; have BKz9 := n11_; have BKz38 := n12_; have BKz46 := n13_; have HB := n14_; clear n0_ n1_ n2_ n3_ n4_ n5_ n6_ n7_ n8_ n9_ n10_ n11_ n12_ n13_ n14_; (try clear ho1)) | ((with_reducible refine gate_dst (N := 20) rfl ?_); (try (refine gate_guard (by rfl) ?_; dsimp only)); refine box_event ?hg (N := 20) ?hd (cs := #[.slice none 0 0, .slice none 0 0]) (t := 30) ?hr ?_; (case hd => rfl); (case hg => rfl); (case hr => first | (go_simp; done) | (go_simp; rfl)); intro gbz54 hg w72 hbox hb; have n0_ := am (Kd.R_below (pr HO_11) hb); have n1_ := am (Kd.R_below (pr HO_12) hb); have n2_ := am (Kd.R_below (pr HO_13) hb); have n3_ := am (Kd.R_below (pr HO_z10000) hb); have n4_ := am (Kd.R_below (pr HO_z10001) hb); have n5_ := am (Kd.R_below (pr HOz33) hb); have n6_ := am (Kd.R_below (pr HOz36) hb); have n7_ := am (Kd.R_below (pr HOz41) hb); have n8_ := am (Kd.R_below (pr HOz44) hb); have n9_ := am (Kd.R_below (pr HOz49) hb); have n10_ := am (Kd.R_below (pr HOz52) hb); have n11_ := am (blk_below (pk BKz9) hb); have n12_ := am (blk_below (pk BKz38) hb); have n13_ := am (blk_below (pk BKz46) hb); have n14_ := am (below_step (by repeat first | (with_reducible first | exact HB.out | apply ba | apply bn | apply bd | refine bs (by assumption) ?_) | exact HB.out) hb); have n15_ := am (hbox); have n16_ := ge_ hg (by repeat first | (with_reducible first | exact HB.out | apply ba | apply bn | apply bd | refine bs (by assumption) ?_) | exact HB.out); have n17_ := ge_ hg (by repeat first | (with_reducible first | exact HB.out | apply ba | apply bn | apply bd | refine bs (by assumption) ?_) | exact HB.out); have n18_ := nl_ hg BKz9; have n19_ := ng_ hg BKz9; have n20_ := nl_ hg BKz38; have n21_ := ng_ hg BKz38; have n22_ := nl_ hg BKz46; have n23_ := ng_ hg BKz46; clear HO_11; clear HO_12; clear HO_13; clear HO_z10000; clear HO_z10001; clear HOz33; clear HOz36; clear HOz41; clear HOz44; clear HOz49; clear HOz52; clear BKz9; clear BKz38; clear BKz46; clear HB; have HO_11 := n0_; have HO_12 := n1_; have HO_13 := n2_; have HO_z10000 := n3_; have HO_z10001 := n4_; have HOz33 := n5_; have HOz36 := n6_; have HOz41 := n7_; have HOz44 := n8_; have HOz49 := n9_; have HOz52 := n10_; have BKz9 := n11_; have BKz38 := n12_; have BKz46 := n13_; have HB := n14_; have BKz54 := n15_; have GWz54 := n16_; have GEz54 := n17_; have NBz9_z54 := n18_; have NBz54_z9 := n19_; have NBz38_z54 := n20_; have NBz54_z38 := n21_; have NBz46_z54 := n22_; have NBz54_z46 := n23_; clear n0_ n1_ n2_ n3_ n4_ n5_ n6_ n7_ n8_ n9_ n10_ n11_ n12_ n13_ n14_ n15_ n16_ n17_ n18_ n19_ n20_ n21_ n22_ n23_; clear hb hbox hg; obtain ⟨Ao73, co73, eo73⟩ := Kd.R_slice HOz49.out; subst eo73; have hnb74 := NBz54_z9.out; have hnc74 := NBz9_z54.out; have hnb75 := NBz54_z38.out; have hnc75 := NBz38_z54.out; have hnb76 := NBz54_z46.out; have hnc76 := NBz46_z54.out; obtain ⟨hcz77_0, hcz77_1⟩ := bc2 BKz54; obtain ⟨hfz77_0, hfz77_1⟩ := bf2 BKz54; obtain ⟨Ao78, co78, eo78⟩ := Kd.R_slice HOz52.out; subst eo78; obtain ⟨hcz79_0, hcz79_1⟩ := bc2 BKz46; obtain ⟨hfz79_0, hfz79_1⟩ := bf2 BKz46; obtain ⟨Ao80, co80, eo80⟩ := Kd.R_slice HO_13.out; subst eo80) | (go_at_call 26; (with_reducible refine (disk_Crash.calls _ _ tz39 _ _ tz42 _ _ x13_1 tz55 tz58 tz61 _ ?side1 ?side2 ?side3 ?side4 ?side5 ?side6 A51.out).mono ?_); (case side1 => refine (Kd.R_reads' (e := 9) (base := w.heap.size) (ok := fun k_ => (((True ∧ some k_ ≠ (.slice Ao11 tz2.length co11 : Value).ownBlock) ∧ some k_ ≠ (.slice Ao57 tz31.length co57 : Value).ownBlock) ∧ some k_ ≠ (.slice Ao73 tz47.length co73 : Value).ownBlock)) (n := tz39.length) (c := co65) ?_).2.2; exact (by (with_reducible repeat first | apply ra | apply rn | apply rd); exact (rs2 HOz41 BKz54 (by decide)))); (case side2 => exact (Kd.R_reads' HOz41.out).2.1); (case side3 => refine (Kd.R_reads' (e := 24) (base := w.heap.size) (ok := fun k_ => (((((True ∧ some k_ ≠ (.slice Ao53 tz11.length co53 : Value).ownBlock) ∧ some k_ ≠ (.slice Ao62 x12_1.length co62 : Value).ownBlock) ∧ some k_ ≠ (.slice Ao13 tz5.length co13 : Value).ownBlock) ∧ some k_ ≠ (.slice Ao60 tz34.length co60 : Value).ownBlock) ∧ some k_ ≠ (.slice Ao78 tz50.length co78 : Value).ownBlock)) (n := tz42.length) (c := co69) ?_).2.2; exact (by (with_reducible repeat first | apply ra | apply rn | apply rd); exact (rs2 HOz44 BKz54 (by decide)))); (case side4 => exact (Kd.R_reads' HOz44.out).2.1); (case side5 => refine (Kd.R_reads' (e := 3) (base := w.heap.size) (ok := fun k_ => True) (n := x13_1.length) (c := co80) ?_).2.2; exact (by (with_reducible repeat first | apply ra | apply rn | apply rd); exact (rs2 HO_13 BKz54 (by decide)))); (case side6 => exact (Kd.R_reads' HO_13.out).2.1); rintro e w81 ⟨vz56, vz59, rfl, ho0, ho1, hb⟩; have n0_ := am (Kd.R_elder' (by (with_reducible repeat first | apply ra | apply rn | apply rd); exact (rs2 HO_11 BKz54 (by decide))) (Kd.R_base ho1) hb); have n1_ := am (Kd.R_elder' (by (with_reducible repeat first | apply ra | apply rn | apply rd); exact (rs2 HO_12 BKz54 (by decide))) (Kd.R_base ho1) hb); have n2_ := am (Kd.R_below (by (with_reducible repeat first | apply ra | apply rn | apply rd); exact (rs2 HO_13 BKz54 (by decide))) hb); have n3_ := am (Kd.R_elder' (by (with_reducible repeat first | apply ra | apply rn | apply rd); exact (rs2 HO_z10000 BKz54 (by decide))) (Kd.R_base ho0) hb); have n4_ := am (Kd.R_elder' (by (with_reducible repeat first | apply ra | apply rn | apply rd); exact (rs2 HO_z10001 BKz54 (by decide))) (Kd.R_base ho1) hb); have n5_ := am (Kd.R_elder' (by (with_reducible repeat first | apply ra | apply rn | apply rd); exact (rs2 HOz33 BKz54 (by decide))) (Kd.R_base ho0) hb); have n6_ := am (Kd.R_elder' (by (with_reducible repeat first | apply ra | apply rn | apply rd); exact (rs2 HOz36 BKz54 (by decide))) (Kd.R_base ho1) hb); have n7_ := am (Kd.R_elder' (by (with_reducible repeat first | apply ra | apply rn | apply rd); exact (rs2 HOz41 BKz54 (by decide))) (Kd.R_base ho0) hb); have n8_ := am (Kd.R_elder' (by (with_reducible repeat first | apply ra | apply rn | apply rd); exact (rs2 HOz44 BKz54 (by decide))) (Kd.R_base ho1) hb); have n9_ := am (Kd.R_elder' (by (with_reducible repeat first | apply ra | apply rn | apply rd); exact (rs2 HOz49 BKz54 (by decide))) (Kd.R_base ho0) hb); have n10_ := am (Kd.R_elder' (by (with_reducible repeat first | apply ra | apply rn | apply rd); exact (rs2 HOz52 BKz54 (by decide))) (Kd.R_base ho1) hb); have n11_ := am (Kd.R_lower (Kd.R_new' (Kd.R_new' (Kd.R_new' (Kd.R_new' ho0 (Kd.R_lt (by (with_reducible repeat first | apply ra | apply rn | apply rd); exact (rs2 HO_z10000 BKz54 (by decide))))) (Kd.R_lt (by (with_reducible repeat first | apply ra | apply rn | apply rd); exact (rs2 HOz33 BKz54 (by decide))))) (Kd.R_lt (by (with_reducible repeat first | apply ra | apply rn | apply rd); exact (rs2 HOz41 BKz54 (by decide))))) (Kd.R_lt (by (with_reducible repeat first | apply ra | apply rn | apply rd); exact (rs2 HOz49 BKz54 (by decide))))) (below_size (by repeat first | (with_reducible first | exact HB.out | apply ba | apply bn | apply bd | refine bs (by assumption) ?_) | exact HB.out))); have n12_ := am (Kd.R_lower (Kd.R_new' (Kd.R_new' (Kd.R_new' (Kd.R_new' (Kd.R_new' (Kd.R_new' ho1 (Kd.R_lt (by (with_reducible repeat first | apply ra | apply rn | apply rd); exact (rs2 HO_11 BKz54 (by decide))))) (Kd.R_lt (by (with_reducible repeat first | apply ra | apply rn | apply rd); exact (rs2 HO_12 BKz54 (by decide))))) (Kd.R_lt (by (with_reducible repeat first | apply ra | apply rn | apply rd); exact (rs2 HO_z10001 BKz54 (by decide))))) (Kd.R_lt (by (with_reducible repeat first | apply ra | apply rn | apply rd); exact (rs2 HOz36 BKz54 (by decide))))) (Kd.R_lt (by (with_reducible repeat first | apply ra | apply rn | apply rd); exact (rs2 HOz44 BKz54 (by decide))))) (Kd.R_lt (by (with_reducible repeat first | apply ra | apply rn | apply rd); exact (rs2 HOz52 BKz54 (by decide))))) (below_size (by repeat first | (with_reducible first | exact HB.out | apply ba | apply bn | apply bd | refine bs (by assumption) ?_) | exact HB.out))); have n13_ := am (blk_below (g := gbz9) (o := .cells #[.slice Ao11 tz2.length co11, .slice Ao13 tz5.length co13] 30 (0, 0)) (by (with_reducible repeat (first | refine blk_drewN ?_ _ | refine blk_drew ?_ | refine blk_alloc ?_ _)); refine blk_far ?_ NBz9_z54.out _; refine blk_far ?_ NBz9_z54.out _; exact pk BKz9) hb); have n14_ := am (blk_below (g := gbz38) (o := .cells #[.slice Ao57 tz31.length co57, .slice Ao60 tz34.length co60] 30 (0, 0)) (by (with_reducible repeat (first | refine blk_drewN ?_ _ | refine blk_drew ?_ | refine blk_alloc ?_ _)); refine blk_far ?_ NBz38_z54.out _; refine blk_far ?_ NBz38_z54.out _; exact pk BKz38) hb); have n15_ := am (blk_below (g := gbz46) (o := .cells #[.slice Ao65 tz39.length co65, .slice Ao69 tz42.length co69] 30 (0, 0)) (by (with_reducible repeat (first | refine blk_drewN ?_ _ | refine blk_drew ?_ | refine blk_alloc ?_ _)); refine blk_far ?_ NBz46_z54.out _; refine blk_far ?_ NBz46_z54.out _; exact pk BKz46) hb); have n16_ := am (blk_below (g := gbz54) (o := .cells #[.slice Ao73 tz47.length co73, .slice Ao78 tz50.length co78] 30 (0, 0)) (by (with_reducible repeat (first | refine blk_drewN ?_ _ | refine blk_drew ?_ | refine blk_alloc ?_ _)); apply bp2; exact pk BKz54) hb); have n17_ := am (below_step (by repeat first | (with_reducible first | exact HB.out | apply ba | apply bn | apply bd | refine bs (by assumption) ?_) | exact HB.out) hb); clear HO_11; clear HO_12; clear HO_13; clear HO_z10000; clear HO_z10001; clear HOz33; clear HOz36; clear HOz41; clear HOz44; clear HOz49; clear HOz52; clear BKz9; clear BKz38; clear BKz46; clear BKz54; clear HB; have HO_11 := n0_; have HO_12 := n1_; have HO_13 := n2_; have HO_z10000 := n3_; have HO_z10001 := n4_; have HOz33 := n5_; have HOz36 := n6_; have HOz41 := n7_; have HOz44 := n8_; have HOz49 := n9_; have HOz52 := n10_; have HOz57 := n11_; have HOz60 := n12_; have BKz9 := n13_; have BKz38 := n14_; have BKz46 := n15_; have BKz54 := n16_; have HB := n17_; clear n0_ n1_ n2_ n3_ n4_ n5_ n6_ n7_ n8_ n9_ n10_ n11_ n12_ n13_ n14_ n15_ n16_ n17_; (try clear ho1)) | ((with_reducible refine gate_dst (N := 22) rfl ?_); (try (refine gate_guard (by rfl) ?_; dsimp only)); refine box_event ?hg (N := 22) ?hd (cs := #[.slice none 0 0, .slice none 0 0]) (t := 30) ?hr ?_; (case hd => rfl); (case hg => rfl); (case hr => first | (go_simp; done) | (go_simp; rfl)); intro gbz62 hg w82 hbox hb; have n0_ := am (Kd.R_below (pr HO_11) hb); have n1_ := am (Kd.R_below (pr HO_12) hb); have n2_ := am (Kd.R_below (pr HO_13) hb); have n3_ := am (Kd.R_below (pr HO_z10000) hb); have n4_ := am (Kd.R_below (pr HO_z10001) hb); have n5_ := am (Kd.R_below (pr HOz33) hb); have n6_ := am (Kd.R_below (pr HOz36) hb); have n7_ := am (Kd.R_below (pr HOz41) hb); have n8_ := am (Kd.R_below (pr HOz44) hb); have n9_ := am (Kd.R_below (pr HOz49) hb); have n10_ := am (Kd.R_below (pr HOz52) hb); have n11_ := am (Kd.R_below (pr HOz57) hb); have n12_ := am (Kd.R_below (pr HOz60) hb); have n13_ := am (blk_below (pk BKz9) hb); have n14_ := am (blk_below (pk BKz38) hb); have n15_ := am (blk_below (pk BKz46) hb); have n16_ := am (blk_below (pk BKz54) hb); have n17_ := am (below_step (by repeat first | (with_reducible first | exact HB.out | apply ba | apply bn | apply bd | refine bs (by assumption) ?_) | exact HB.out) hb); have n18_ := am (hbox); have n19_ := ge_ hg (by repeat first | (with_reducible first | exact HB.out | apply ba | apply bn | apply bd | refine bs (by assumption) ?_) | exact HB.out); have n20_ := ge_ hg (by repeat first | (with_reducible first | exact HB.out | apply ba | apply bn | apply bd | refine bs (by assumption) ?_) | exact HB.out); have n21_ := nl_ hg BKz9; have n22_ := ng_ hg BKz9; have n23_ := nl_ hg BKz38; have n24_ := ng_ hg BKz38; have n25_ := nl_ hg BKz46; have n26_ := ng_ hg BKz46; have n27_ := nl_ hg BKz54; have n28_ := ng_ hg BKz54; clear HO_11; clear HO_12; clear HO_13; clear HO_z10000; clear HO_z10001; clear HOz33; clear HOz36; clear HOz41; clear HOz44; clear HOz49; clear HOz52; clear HOz57; clear HOz60; clear BKz9; clear BKz38; clear BKz46; clear BKz54; clear HB; have HO_11 := n0_; have HO_12 := n1_; have HO_13 := n2_; have HO_z10000 := n3_; have HO_z10001 := n4_; have HOz33 := n5_; have HOz36 := n6_; have HOz41 := n7_; have HOz44 := n8_; have HOz49 := n9_; have HOz52 := n10_; have HOz57 := n11_; have HOz60 := n12_; have BKz9 := n13_; have BKz38 := n14_; have BKz46 := n15_; have BKz54 := n16_; have HB := n17_; have BKz62 := n18_; have GWz62 := n19_; have GEz62 := n20_; have NBz9_z62 := n21_; have NBz62_z9 := n22_; have NBz38_z62 := n23_; have NBz62_z38 := n24_; have NBz46_z62 := n25_; have NBz62_z46 := n26_; have NBz54_z62 := n27_; have NBz62_z54 := n28_; clear n0_ n1_ n2_ n3_ n4_ n5_ n6_ n7_ n8_ n9_ n10_ n11_ n12_ n13_ n14_ n15_ n16_ n17_ n18_ n19_ n20_ n21_ n22_ n23_ n24_ n25_ n26_ n27_ n28_; clear hb hbox hg; obtain ⟨Ao83, co83, eo83⟩ := Kd.R_slice HOz57.out; subst eo83; have hnb84 := NBz62_z9.out; have hnc84 := NBz9_z62.out; have hnb85 := NBz62_z38.out; have hnc85 := NBz38_z62.out; have hnb86 := NBz62_z46.out; have hnc86 := NBz46_z62.out; have hnb87 := NBz62_z54.out; have hnc87 := NBz54_z62.out; obtain ⟨hcz88_0, hcz88_1⟩ := bc2 BKz62; obtain ⟨hfz88_0, hfz88_1⟩ := bf2 BKz62; obtain ⟨Ao89, co89, eo89⟩ := Kd.R_slice HOz60.out; subst eo89))
 repeat (go_quiet (first | (go_at_call 25; (with_reducible refine (disk_Do.calls _ _ tz2 _ _ tz5 _ _ tz11 tz31 tz34 tz37 _ ?side1 ?side2 ?side3 ?side4 ?side5 ?side6 A48.out).mono ?_); (case side1 => repeat (first | exact (Kd.R_reads' HO_z10000.out).2.2 | (with_reducible refine Kd.C_alloc ?_ _) | (with_reducible refine Kd.C_drewN ?_ _) | (with_reducible refine Kd.C_drew ?_))); (case side2 => exact (Kd.R_reads' HO_z10000.out).2.1); (case side3 => repeat (first | exact (Kd.R_reads' HO_z10001.out).2.2 | (with_reducible refine Kd.C_alloc ?_ _) | (with_reducible refine Kd.C_drewN ?_ _) | (with_reducible refine Kd.C_drew ?_))); (case side4 => exact (Kd.R_reads' HO_z10001.out).2.1); (case side5 => repeat (first | exact (Kd.R_reads' HO_11.out).2.2 | (with_reducible refine Kd.C_alloc ?_ _) | (with_reducible refine Kd.C_drewN ?_ _) | (with_reducible refine Kd.C_drew ?_))); (case side6 => exact (Kd.R_reads' HO_11.out).2.1); rintro e w55 ⟨vz32, vz35, rfl, ho0, ho1, hb⟩; have n0_ := am (Kd.R_elder' (pr HO_11) (Kd.R_base ho1) hb); have n1_ := am (Kd.R_elder' (pr HO_12) (Kd.R_base ho1) hb); have n2_ := am (Kd.R_below (pr HO_13) hb); have n3_ := am (Kd.R_elder' (pr HO_z10000) (Kd.R_base ho0) hb); have n4_ := am (Kd.R_elder' (pr HO_z10001) (Kd.R_base ho1) hb); have n5_ := am (Kd.R_lower (Kd.R_new' ho0 (Kd.R_lt (pr HO_z10000))) (below_size (by repeat first | (with_reducible first | exact HB.out | apply ba | apply bn | apply bd | refine bs (by assumption) ?_) | exact HB.out))); have n6_ := am (Kd.R_lower (Kd.R_new' (Kd.R_new' (Kd.R_new' ho1 (Kd.R_lt (pr HO_11))) (Kd.R_lt (pr HO_12))) (Kd.R_lt (pr HO_z10001))) (below_size (by repeat first | (with_reducible first | exact HB.out | apply ba | apply bn | apply bd | refine bs (by assumption) ?_) | exact HB.out))); have n7_ := am (blk_below (pk BKz9) hb); have n8_ := am (below_step (by repeat first | (with_reducible first | exact HB.out | apply ba | apply bn | apply bd | refine bs (by assumption) ?_) | exact HB.out) hb); clear HO_11; clear HO_12; clear HO_13; clear HO_z10000; clear HO_z10001; clear BKz9; clear HB; have HO_11 := n0_; have HO_12 := n1_; have HO_13 := n2_; have HO_z10000 := n3_; have HO_z10001 := n4_; have HOz33 := n5_; have HOz36 := n6_; have BKz9 := n7_; have HB := n8_; clear n0_ n1_ n2_ n3_ n4_ n5_ n6_ n7_ n8_; (try clear ho1)) | ((with_reducible refine gate_dst (N := 16) rfl ?_); (try (refine gate_guard (by rfl) ?_; dsimp only)); refine box_event ?hg (N := 16) ?hd (cs := #[.slice none 0 0, .slice none 0 0]) (t := 30) ?hr ?_; (case hd => rfl); (case hg => rfl); (case hr => first | (go_simp; done) | (go_simp; rfl)); intro gbz38 hg w56 hbox hb; have n0_ := am (Kd.R_below (pr HO_11) hb); have n1_ := am (Kd.R_below (pr HO_12) hb); have n2_ := am (Kd.R_below (pr HO_13) hb); have n3_ := am (Kd.R_below (pr HO_z10000) hb); have n4_ := am (Kd.R_below (pr HO_z10001) hb); have n5_ := am (Kd.R_below (pr HOz33) hb); have n6_ := am (Kd.R_below (pr HOz36) hb); have n7_ := am (blk_below (pk BKz9) hb); have n8_ := am (below_step (by repeat first | (with_reducible first | exact HB.out | apply ba | apply bn | apply bd | refine bs (by assumption) ?_) | exact HB.out) hb); have n9_ := am (hbox); have n10_ := ge_ hg (by repeat first | (with_reducible first | exact HB.out | apply ba | apply bn | apply bd | refine bs (by assumption) ?_) | exact HB.out); have n11_ := ge_ hg (by repeat first | (with_reducible first | exact HB.out | apply ba | apply bn | apply bd | refine bs (by assumption) ?_) | exact HB.out); have n12_ := nl_ hg BKz9; have n13_ := ng_ hg BKz9; clear HO_11; clear HO_12; clear HO_13; clear HO_z10000; clear HO_z10001; clear HOz33; clear HOz36; clear BKz9; clear HB; have HO_11 := n0_; have HO_12 := n1_; have HO_13 := n2_; have HO_z10000 := n3_; have HO_z10001 := n4_; have HOz33 := n5_; have HOz36 := n6_; have BKz9 := n7_; have HB := n8_; have BKz38 := n9_; have GWz38 := n10_; have GEz38 := n11_; have NBz9_z38 := n12_; have NBz38_z9 := n13_; clear n0_ n1_ n2_ n3_ n4_ n5_ n6_ n7_ n8_ n9_ n10_ n11_ n12_ n13_; clear hb hbox hg; obtain ⟨Ao57, co57, eo57⟩ := Kd.R_slice HOz33.out; subst eo57; have hnb58 := NBz38_z9.out; have hnc58 := NBz9_z38.out; obtain ⟨hcz59_0, hcz59_1⟩ := bc2 BKz38; obtain ⟨hfz59_0, hfz59_1⟩ := bf2 BKz38; obtain ⟨Ao60, co60, eo60⟩ := Kd.R_slice HOz36.out; subst eo60; obtain ⟨hcz61_0, hcz61_1⟩ := bc2 BKz9; obtain ⟨hfz61_0, hfz61_1⟩ := bf2 BKz9; obtain ⟨Ao62, co62, eo62⟩ := Kd.R_slice HO_12.out; subst eo62) | (go_at_call 25; (with_reducible refine (disk_Do.calls _ _ tz2 _ _ tz5 _ _ x12_1 tz39 tz42 tz45 _ ?side1 ?side2 ?side3 ?side4 ?side5 ?side6 A49.out).mono ?_); (case side1 => refine (Kd.R_reads' (e := 9) (base := w.heap.size) (ok := fun k_ => (True ∧ some k_ ≠ (.slice Ao57 tz31.length co57 : Value).ownBlock)) (n := tz2.length) (c := co11) ?_).2.2; exact (by (with_reducible repeat first | apply ra | apply rn | apply rd); exact (rs2 HO_z10000 BKz38 (by decide)))); (case side2 => exact (Kd.R_reads' HO_z10000.out).2.1); (case side3 => refine (Kd.R_reads' (e := 24) (base := w.heap.size) (ok := fun k_ => ((some k_ ≠ (.slice Ao53 tz11.length co53 : Value).ownBlock ∧ some k_ ≠ (.slice Ao62 x12_1.length co62 : Value).ownBlock) ∧ some k_ ≠ (.slice Ao60 tz34.length co60 : Value).ownBlock)) (n := tz5.length) (c := co13) ?_).2.2; exact (by (with_reducible repeat first | apply ra | apply rn | apply rd); exact (rs2 HO_z10001 BKz38 (by decide)))); (case side4 => exact (Kd.R_reads' HO_z10001.out).2.1); (case side5 => refine (Kd.R_reads' (e := 24) (base := w.heap.size) (ok := fun k_ => ((some k_ ≠ (.slice Ao53 tz11.length co53 : Value).ownBlock ∧ some k_ ≠ (.slice Ao13 tz5.length co13 : Value).ownBlock) ∧ some k_ ≠ (.slice Ao60 tz34.length co60 : Value).ownBlock)) (n := x12_1.length) (c := co62) ?_).2.2; exact (by (with_reducible repeat first | apply ra | apply rn | apply rd); exact (rs2 HO_12 BKz38 (by decide)))); (case side6 => exact (Kd.R_reads' HO_12.out).2.1); rintro e w63 ⟨vz40, vz43, rfl, ho0, ho1, hb⟩; have n0_ := am (Kd.R_elder' (by (with_reducible repeat first | apply ra | apply rn | apply rd); exact (rs2 HO_11 BKz38 (by decide))) (Kd.R_base ho1) hb); have n1_ := am (Kd.R_elder' (by (with_reducible repeat first | apply ra | apply rn | apply rd); exact (rs2 HO_12 BKz38 (by decide))) (Kd.R_base ho1) hb); have n2_ := am (Kd.R_below (by (with_reducible repeat first | apply ra | apply rn | apply rd); exact (rs2 HO_13 BKz38 (by decide))) hb); have n3_ := am (Kd.R_elder' (by (with_reducible repeat first | apply ra | apply rn | apply rd); exact (rs2 HO_z10000 BKz38 (by decide))) (Kd.R_base ho0) hb); have n4_ := am (Kd.R_elder' (by (with_reducible repeat first | apply ra | apply rn | apply rd); exact (rs2 HO_z10001 BKz38 (by decide))) (Kd.R_base ho1) hb); have n5_ := am (Kd.R_elder' (by (with_reducible repeat first | apply ra | apply rn | apply rd); exact (rs2 HOz33 BKz38 (by decide))) (Kd.R_base ho0) hb); have n6_ := am (Kd.R_elder' (by (with_reducible repeat first | apply ra | apply rn | apply rd); exact (rs2 HOz36 BKz38 (by decide))) (Kd.R_base ho1) hb); have n7_ := am (Kd.R_lower (Kd.R_new' (Kd.R_new' ho0 (Kd.R_lt (by (with_reducible repeat first | apply ra | apply rn | apply rd); exact (rs2 HO_z10000 BKz38 (by decide))))) (Kd.R_lt (by (with_reducible repeat first | apply ra | apply rn | apply rd); exact (rs2 HOz33 BKz38 (by decide))))) (below_size (by repeat first | (with_reducible first | exact HB.out | apply ba | apply bn | apply bd | refine bs (by assumption) ?_) | exact HB.out))); have n8_ := am (Kd.R_lower (Kd.R_new' (Kd.R_new' (Kd.R_new' (Kd.R_new' ho1 (Kd.R_lt (by (with_reducible repeat first | apply ra | apply rn | apply rd); exact (rs2 HO_11 BKz38 (by decide))))) (Kd.R_lt (by (with_reducible repeat first | apply ra | apply rn | apply rd); exact (rs2 HO_12 BKz38 (by decide))))) (Kd.R_lt (by (with_reducible repeat first | apply ra | apply rn | apply rd); exact (rs2 HO_z10001 BKz38 (by decide))))) (Kd.R_lt (by (with_reducible repeat first | apply ra | apply rn | apply rd); exact (rs2 HOz36 BKz38 (by decide))))) (below_size (by repeat first | (with_reducible first | exact HB.out | apply ba | apply bn | apply bd | refine bs (by assumption) ?_) | exact HB.out))); have n9_ := am (blk_below (g := gbz9) (o := .cells #[.slice Ao11 tz2.length co11, .slice Ao13 tz5.length co13] 30 (0, 0)) (by (with_reducible repeat (first | refine blk_drewN ?_ _ | refine blk_drew ?_ | refine blk_alloc ?_ _)); refine blk_far ?_ NBz9_z38.out _; refine blk_far ?_ NBz9_z38.out _; exact pk BKz9) hb); have n10_ := am (blk_below (g := gbz38) (o := .cells #[.slice Ao57 tz31.length co57, .slice Ao60 tz34.length co60] 30 (0, 0)) (by (with_reducible repeat (first | refine blk_drewN ?_ _ | refine blk_drew ?_ | refine blk_alloc ?_ _)); apply bp2; exact pk BKz38) hb); have n11_ := am (below_step (by repeat first | (with_reducible first | exact HB.out | apply ba | apply bn | apply bd | refine bs (by assumption) ?_) | exact HB.out) hb); clear HO_11; clear HO_12; clear HO_13; clear HO_z10000; clear HO_z10001; clear HOz33; clear HOz36; clear BKz9; clear BKz38; clear HB; have HO_11 := n0_; have HO_12 := n1_; have HO_13 := n2_; have HO_z10000 := n3_; have HO_z10001 := n4_; have HOz33 := n5_; have HOz36 := n6_; have HOz41 := n7_; have HOz44 := n8_; have BKz9 := n9_; have BKz38 := n10_; have HB := n11_; clear n0_ n1_ n2_ n3_ n4_ n5_ n6_ n7_ n8_ n9_ n10_ n11_; (try clear ho1)) | ((with_reducible refine gate_dst (N := 18) rfl ?_); (try (refine gate_guard (by rfl) ?_; dsimp only)); refine box_event ?hg (N := 18) ?hd (cs := #[.slice none 0 0, .slice none 0 0]) (t := 30) ?hr ?_; (case hd => rfl); (case hg => rfl); (case hr => first | (go_simp; done) | (go_simp; rfl)); intro gbz46 hg w64 hbox hb; have n0_ := am (Kd.R_below (pr HO_11) hb); have n1_ := am (Kd.R_below (pr HO_12) hb); have n2_ := am (Kd.R_below (pr HO_13) hb); have n3_ := am (Kd.R_below (pr HO_z10000) hb); have n4_ := am (Kd.R_below (pr HO_z10001) hb); have n5_ := am (Kd.R_below (pr HOz33) hb); have n6_ := am (Kd.R_below (pr HOz36) hb); have n7_ := am (Kd.R_below (pr HOz41) hb); have n8_ := am (Kd.R_below (pr HOz44) hb); have n9_ := am (blk_below (pk BKz9) hb); have n10_ := am (blk_below (pk BKz38) hb); have n11_ := am (below_step (by repeat first | (with_reducible first | exact HB.out | apply ba | apply bn | apply bd | refine bs (by assumption) ?_) | exact HB.out) hb); have n12_ := am (hbox); have n13_ := ge_ hg (by repeat first | (with_reducible first | exact HB.out | apply ba | apply bn | apply bd | refine bs (by assumption) ?_) | exact HB.out); have n14_ := ge_ hg (by repeat first | (with_reducible first | exact HB.out | apply ba | apply bn | apply bd | refine bs (by assumption) ?_) | exact HB.out); have n15_ := nl_ hg BKz9; have n16_ := ng_ hg BKz9; have n17_ := nl_ hg BKz38; have n18_ := ng_ hg BKz38; clear HO_11; clear HO_12; clear HO_13; clear HO_z10000; clear HO_z10001; clear HOz33; clear HOz36; clear HOz41; clear HOz44; clear BKz9; clear BKz38; clear HB; have HO_11 := n0_; have HO_12 := n1_; have HO_13 := n2_; have HO_z10000 := n3_; have HO_z10001 := n4_; have HOz33 := n5_; have HOz36 := n6_; have HOz41 := n7_; have HOz44 := n8_; have BKz9 := n9_; have BKz38 := n10_; have HB := n11_; have BKz46 := n12_; have GWz46 := n13_; have GEz46 := n14_; have NBz9_z46 := n15_; have NBz46_z9 := n16_; have NBz38_z46 := n17_; have NBz46_z38 := n18_; clear n0_ n1_ n2_ n3_ n4_ n5_ n6_ n7_ n8_ n9_ n10_ n11_ n12_ n13_ n14_ n15_ n16_ n17_ n18_; clear hb hbox hg; obtain ⟨Ao65, co65, eo65⟩ := Kd.R_slice HOz41.out; subst eo65; have hnb66 := NBz46_z9.out; have hnc66 := NBz9_z46.out; have hnb67 := NBz46_z38.out; have hnc67 := NBz38_z46.out; obtain ⟨hcz68_0, hcz68_1⟩ := bc2 BKz46; obtain ⟨hfz68_0, hfz68_1⟩ := bf2 BKz46; obtain ⟨Ao69, co69, eo69⟩ := Kd.R_slice HOz44.out; subst eo69; obtain ⟨hcz70_0, hcz70_1⟩ := bc2 BKz38; obtain ⟨hfz70_0, hfz70_1⟩ := bf2 BKz38) | (go_at_call 26; (with_reducible refine (disk_Crash.calls _ _ tz31 _ _ tz34 _ _ l2 tz47 tz50 tz53 _ ?side1 ?side2 ?side3 ?side4 ?side5 ?side6 A50.out).mono ?_); (case side1 => refine (Kd.R_reads' (e := 9) (base := w.heap.size) (ok := fun k_ => ((True ∧ some k_ ≠ (.slice Ao11 tz2.length co11 : Value).ownBlock) ∧ some k_ ≠ (.slice Ao65 tz39.length co65 : Value).ownBlock)) (n := tz31.length) (c := co57) ?_).2.2; exact (by (with_reducible repeat first | apply ra | apply rn | apply rd); exact (rs2 HOz33 BKz46 (by decide)))); (case side2 => exact (Kd.R_reads' HOz33.out).2.1); (case side3 => refine (Kd.R_reads' (e := 24) (base := w.heap.size) (ok := fun k_ => ((((True ∧ some k_ ≠ (.slice Ao53 tz11.length co53 : Value).ownBlock) ∧ some k_ ≠ (.slice Ao62 x12_1.length co62 : Value).ownBlock) ∧ some k_ ≠ (.slice Ao13 tz5.length co13 : Value).ownBlock) ∧ some k_ ≠ (.slice Ao69 tz42.length co69 : Value).ownBlock)) (n := tz34.length) (c := co60) ?_).2.2; exact (by (with_reducible repeat first | apply ra | apply rn | apply rd); exact (rs2 HOz36 BKz46 (by decide)))); (case side4 => exact (Kd.R_reads' HOz36.out).2.1); (case side5 => exact Kd.C_below HR2.out (by repeat first | (with_reducible first | exact HB.out | apply ba | apply bn | apply bd | refine bs (by assumption) ?_) | exact HB.out)); (case side6 => exact HC2.out); rintro e w71 ⟨vz48, vz51, rfl, ho0, ho1, hb⟩; have n0_ := am (Kd.R_elder' (by (with_reducible repeat first | apply ra | apply rn | apply rd); exact (rs2 HO_11 BKz46 (by decide))) (Kd.R_base ho1) hb); have n1_ := am (Kd.R_elder' (by (with_reducible repeat first | apply ra | apply rn | apply rd); exact (rs2 HO_12 BKz46 (by decide))) (Kd.R_base ho1) hb); have n2_ := am (Kd.R_below (by (with_reducible repeat first | apply ra | apply rn | apply rd); exact (rs2 HO_13 BKz46 (by decide))) hb); have n3_ := am (Kd.R_elder' (by (with_reducible repeat first | apply ra | apply rn | apply rd); exact (rs2 HO_z10000 BKz46 (by decide))) (Kd.R_base ho0) hb); have n4_ := am (Kd.R_elder' (by (with_reducible repeat first | apply ra | apply rn | apply rd); exact (rs2 HO_z10001 BKz46 (by decide))) (Kd.R_base ho1) hb); have n5_ := am (Kd.R_elder' (by (with_reducible repeat first | apply ra | apply rn | apply rd); exact (rs2 HOz33 BKz46 (by decide))) (Kd.R_base ho0) hb); have n6_ := am (Kd.R_elder' (by (with_reducible repeat first | apply ra | apply rn | apply rd); exact (rs2 HOz36 BKz46 (by decide))) (Kd.R_base ho1) hb); have n7_ := am (Kd.R_elder' (by (with_reducible repeat first | apply ra | apply rn | apply rd); exact (rs2 HOz41 BKz46 (by decide))) (Kd.R_base ho0) hb); have n8_ := am (Kd.R_elder' (by (with_reducible repeat first | apply ra | apply rn | apply rd); exact (rs2 HOz44 BKz46 (by decide))) (Kd.R_base ho1) hb); have n9_ := am (Kd.R_lower (Kd.R_new' (Kd.R_new' (Kd.R_new' ho0 (Kd.R_lt (by (with_reducible repeat first | apply ra | apply rn | apply rd); exact (rs2 HO_z10000 BKz46 (by decide))))) (Kd.R_lt (by (with_reducible repeat first | apply ra | apply rn | apply rd); exact (rs2 HOz33 BKz46 (by decide))))) (Kd.R_lt (by (with_reducible repeat first | apply ra | apply rn | apply rd); exact (rs2 HOz41 BKz46 (by decide))))) (below_size (by repeat first | (with_reducible first | exact HB.out | apply ba | apply bn | apply bd | refine bs (by assumption) ?_) | exact HB.out))); have n10_ := am (Kd.R_lower (Kd.R_new' (Kd.R_new' (Kd.R_new' (Kd.R_new' (Kd.R_new' ho1 (Kd.R_lt (by (with_reducible repeat first | apply ra | apply rn | apply rd); exact (rs2 HO_11 BKz46 (by decide))))) (Kd.R_lt (by (with_reducible repeat first | apply ra | apply rn | apply rd); exact (rs2 HO_12 BKz46 (by decide))))) (Kd.R_lt (by (with_reducible repeat first | apply ra | apply rn | apply rd); exact (rs2 HO_z10001 BKz46 (by decide))))) (Kd.R_lt (by (with_reducible repeat first | apply ra | apply rn | apply rd); exact (rs2 HOz36 BKz46 (by decide))))) (Kd.R_lt (by (with_reducible repeat first | apply ra | apply rn | apply rd); exact (rs2 HOz44 BKz46 (by decide))))) (below_size (by repeat first | (with_reducible first | exact HB.out | apply ba | apply bn | apply bd | refine bs (by assumption) ?_) | exact HB.out))); have n11_ := am (blk_below (g := gbz9) (o := .cells #[.slice Ao11 tz2.length co11, .slice Ao13 tz5.length co13] 30 (0, 0)) (by (with_reducible repeat (first | refine blk_drewN ?_ _ | refine blk_drew ?_ | refine blk_alloc ?_ _)); refine blk_far ?_ NBz9_z46.out _; refine blk_far ?_ NBz9_z46.out _; exact pk BKz9) hb); have n12_ := am (blk_below (g := gbz38) (o := .cells #[.slice Ao57 tz31.length co57, .slice Ao60 tz34.length co60] 30 (0, 0)) (by (with_reducible repeat (first | refine blk_drewN ?_ _ | refine blk_drew ?_ | refine blk_alloc ?_ _)); refine blk_far ?_ NBz38_z46.out _; refine blk_far ?_ NBz38_z46.out _; exact pk BKz38) hb); have n13_ := am (blk_below (g := gbz46) (o := .cells #[.slice Ao65 tz39.length co65, .slice Ao69 tz42.length co69] 30 (0, 0)) (by (with_reducible repeat (first | refine blk_drewN ?_ _ | refine blk_drew ?_ | refine blk_alloc ?_ _)); apply bp2; exact pk BKz46) hb); have n14_ := am (below_step (by repeat first | (with_reducible first | exact HB.out | apply ba | apply bn | apply bd | refine bs (by assumption) ?_) | exact HB.out) hb); clear HO_11; clear HO_12; clear HO_13; clear HO_z10000; clear HO_z10001; clear HOz33; clear HOz36; clear HOz41; clear HOz44; clear BKz9; clear BKz38; clear BKz46; clear HB; have HO_11 := n0_; have HO_12 := n1_; have HO_13 := n2_; have HO_z10000 := n3_; have HO_z10001 := n4_; have HOz33 := n5_; have HOz36 := n6_; have HOz41 := n7_; have HOz44 := n8_; have HOz49 := n9_; have HOz52 := n10_; have BKz9 := n11_; have BKz38 := n12_; have BKz46 := n13_; have HB := n14_; clear n0_ n1_ n2_ n3_ n4_ n5_ n6_ n7_ n8_ n9_ n10_ n11_ n12_ n13_ n14_; (try clear ho1)) | ((with_reducible refine gate_dst (N := 20) rfl ?_); (try (refine gate_guard (by rfl) ?_; dsimp only)); refine box_event ?hg (N := 20) ?hd (cs := #[.slice none 0 0, .slice none 0 0]) (t := 30) ?hr ?_; (case hd => rfl); (case hg => rfl); (case hr => first | (go_simp; done) | (go_simp; rfl)); intro gbz54 hg w72 hbox hb; have n0_ := am (Kd.R_below (pr HO_11) hb); have n1_ := am (Kd.R_below (pr HO_12) hb); have n2_ := am (Kd.R_below (pr HO_13) hb); have n3_ := am (Kd.R_below (pr HO_z10000) hb); have n4_ := am (Kd.R_below (pr HO_z10001) hb); have n5_ := am (Kd.R_below (pr HOz33) hb); have n6_ := am (Kd.R_below (pr HOz36) hb); have n7_ := am (Kd.R_below (pr HOz41) hb); have n8_ := am (Kd.R_below (pr HOz44) hb); have n9_ := am (Kd.R_below (pr HOz49) hb); have n10_ := am (Kd.R_below (pr HOz52) hb); have n11_ := am (blk_below (pk BKz9) hb); have n12_ := am (blk_below (pk BKz38) hb); have n13_ := am (blk_below (pk BKz46) hb); have n14_ := am (below_step (by repeat first | (with_reducible first | exact HB.out | apply ba | apply bn | apply bd | refine bs (by assumption) ?_) | exact HB.out) hb); have n15_ := am (hbox); have n16_ := ge_ hg (by repeat first | (with_reducible first | exact HB.out | apply ba | apply bn | apply bd | refine bs (by assumption) ?_) | exact HB.out); have n17_ := ge_ hg (by repeat first | (with_reducible first | exact HB.out | apply ba | apply bn | apply bd | refine bs (by assumption) ?_) | exact HB.out); have n18_ := nl_ hg BKz9; have n19_ := ng_ hg BKz9; have n20_ := nl_ hg BKz38; have n21_ := ng_ hg BKz38; have n22_ := nl_ hg BKz46; have n23_ := ng_ hg BKz46; clear HO_11; clear HO_12; clear HO_13; clear HO_z10000; clear HO_z10001; clear HOz33; clear HOz36; clear HOz41; clear HOz44; clear HOz49; clear HOz52; clear BKz9; clear BKz38; clear BKz46; clear HB; have HO_11 := n0_; have HO_12 := n1_; have HO_13 := n2_; have HO_z10000 := n3_; have HO_z10001 := n4_; have HOz33 := n5_; have HOz36 := n6_; have HOz41 := n7_; have HOz44 := n8_; have HOz49 := n9_; have HOz52 := n10_; have BKz9 := n11_; have BKz38 := n12_; have BKz46 := n13_; have HB := n14_; have BKz54 := n15_; have GWz54 := n16_; have GEz54 := n17_; have NBz9_z54 := n18_; have NBz54_z9 := n19_; have NBz38_z54 := n20_; have NBz54_z38 := n21_; have NBz46_z54 := n22_; have NBz54_z46 := n23_; clear n0_ n1_ n2_ n3_ n4_ n5_ n6_ n7_ n8_ n9_ n10_ n11_ n12_ n13_ n14_ n15_ n16_ n17_ n18_ n19_ n20_ n21_ n22_ n23_; clear hb hbox hg; obtain ⟨Ao73, co73, eo73⟩ := Kd.R_slice HOz49.out; subst eo73; have hnb74 := NBz54_z9.out; have hnc74 := NBz9_z54.out; have hnb75 := NBz54_z38.out; have hnc75 := NBz38_z54.out; have hnb76 := NBz54_z46.out; have hnc76 := NBz46_z54.out; obtain ⟨hcz77_0, hcz77_1⟩ := bc2 BKz54; obtain ⟨hfz77_0, hfz77_1⟩ := bf2 BKz54; obtain ⟨Ao78, co78, eo78⟩ := Kd.R_slice HOz52.out; subst eo78; obtain ⟨hcz79_0, hcz79_1⟩ := bc2 BKz46; obtain ⟨hfz79_0, hfz79_1⟩ := bf2 BKz46; obtain ⟨Ao80, co80, eo80⟩ := Kd.R_slice HO_13.out; subst eo80) | (go_at_call 26; (with_reducible refine (disk_Crash.calls _ _ tz39 _ _ tz42 _ _ x13_1 tz55 tz58 tz61 _ ?side1 ?side2 ?side3 ?side4 ?side5 ?side6 A51.out).mono ?_); (case side1 => refine (Kd.R_reads' (e := 9) (base := w.heap.size) (ok := fun k_ => (((True ∧ some k_ ≠ (.slice Ao11 tz2.length co11 : Value).ownBlock) ∧ some k_ ≠ (.slice Ao57 tz31.length co57 : Value).ownBlock) ∧ some k_ ≠ (.slice Ao73 tz47.length co73 : Value).ownBlock)) (n := tz39.length) (c := co65) ?_).2.2; exact (by (with_reducible repeat first | apply ra | apply rn | apply rd); exact (rs2 HOz41 BKz54 (by decide)))); (case side2 => exact (Kd.R_reads' HOz41.out).2.1); (case side3 => refine (Kd.R_reads' (e := 24) (base := w.heap.size) (ok := fun k_ => (((((True ∧ some k_ ≠ (.slice Ao53 tz11.length co53 : Value).ownBlock) ∧ some k_ ≠ (.slice Ao62 x12_1.length co62 : Value).ownBlock) ∧ some k_ ≠ (.slice Ao13 tz5.length co13 : Value).ownBlock) ∧ some k_ ≠ (.slice Ao60 tz34.length co60 : Value).ownBlock) ∧ some k_ ≠ (.slice Ao78 tz50.length co78 : Value).ownBlock)) (n := tz42.length) (c := co69) ?_).2.2; exact (by (with_reducible repeat first | apply ra | apply rn | apply rd); exact (rs2 HOz44 BKz54 (by decide)))); (case side4 => exact (Kd.R_reads' HOz44.out).2.1); (case side5 => refine (Kd.R_reads' (e := 3) (base := w.heap.size) (ok := fun k_ => True) (n := x13_1.length) (c := co80) ?_).2.2; exact (by (with_reducible repeat first | apply ra | apply rn | apply rd); exact (rs2 HO_13 BKz54 (by decide)))); (case side6 => exact (Kd.R_reads' HO_13.out).2.1); rintro e w81 ⟨vz56, vz59, rfl, ho0, ho1, hb⟩; have n0_ := am (Kd.R_elder' (by (with_reducible repeat first | apply ra | apply rn | apply rd); exact (rs2 HO_11 BKz54 (by decide))) (Kd.R_base ho1) hb); have n1_ := am (Kd.R_elder' (by (with_reducible repeat first | apply ra | apply rn | apply rd); exact (rs2 HO_12 BKz54 (by decide))) (Kd.R_base ho1) hb); have n2_ := am (Kd.R_below (by (with_reducible repeat first | apply ra | apply rn | apply rd); exact (rs2 HO_13 BKz54 (by decide))) hb); have n3_ := am (Kd.R_elder' (by (with_reducible repeat first | apply ra | apply rn | apply rd); exact (rs2 HO_z10000 BKz54 (by decide))) (Kd.R_base ho0) hb); have n4_ := am (Kd.R_elder' (by (with_reducible repeat first | apply ra | apply rn | apply rd); exact (rs2 HO_z10001 BKz54 (by decide))) (Kd.R_base ho1) hb); have n5_ := am (Kd.R_elder' (by (with_reducible repeat first | apply ra | apply rn | apply rd); exact (rs2 HOz33 BKz54 (by decide))) (Kd.R_base ho0) hb); have n6_ := am (Kd.R_elder' (by (with_reducible repeat first | apply ra | apply rn | apply rd); exact (rs2 HOz36 BKz54 (by decide))) (Kd.R_base ho1) hb); have n7_ := am (Kd.R_elder' (by (with_reducible repeat first | apply ra | apply rn | apply rd); exact (rs2 HOz41 BKz54 (by decide))) (Kd.R_base ho0) hb); have n8_ := am (Kd.R_elder' (by (with_reducible repeat first | apply ra | apply rn | apply rd); exact (rs2 HOz44 BKz54 (by decide))) (Kd.R_base ho1) hb); have n9_ := am (Kd.R_elder' (by (with_reducible repeat first | apply ra | apply rn | apply rd); exact (rs2 HOz49 BKz54 (by decide))) (Kd.R_base ho0) hb); have n10_ := am (Kd.R_elder' (by (with_reducible repeat first | apply ra | apply rn | apply rd); exact (rs2 HOz52 BKz54 (by decide))) (Kd.R_base ho1) hb); have n11_ := am (Kd.R_lower (Kd.R_new' (Kd.R_new' (Kd.R_new' (Kd.R_new' ho0 (Kd.R_lt (by (with_reducible repeat first | apply ra | apply rn | apply rd); exact (rs2 HO_z10000 BKz54 (by decide))))) (Kd.R_lt (by (with_reducible repeat first | apply ra | apply rn | apply rd); exact (rs2 HOz33 BKz54 (by decide))))) (Kd.R_lt (by (with_reducible repeat first | apply ra | apply rn | apply rd); exact (rs2 HOz41 BKz54 (by decide))))) (Kd.R_lt (by (with_reducible repeat first | apply ra | apply rn | apply rd); exact (rs2 HOz49 BKz54 (by decide))))) (below_size (by repeat first | (with_reducible first | exact HB.out | apply ba | apply bn | apply bd | refine bs (by assumption) ?_) | exact HB.out))); have n12_ := am (Kd.R_lower (Kd.R_new' (Kd.R_new' (Kd.R_new' (Kd.R_new' (Kd.R_new' (Kd.R_new' ho1 (Kd.R_lt (by (with_reducible repeat first | apply ra | apply rn | apply rd); exact (rs2 HO_11 BKz54 (by decide))))) (Kd.R_lt (by (with_reducible repeat first | apply ra | apply rn | apply rd); exact (rs2 HO_12 BKz54 (by decide))))) (Kd.R_lt (by (with_reducible repeat first | apply ra | apply rn | apply rd); exact (rs2 HO_z10001 BKz54 (by decide))))) (Kd.R_lt (by (with_reducible repeat first | apply ra | apply rn | apply rd); exact (rs2 HOz36 BKz54 (by decide))))) (Kd.R_lt (by (with_reducible repeat first | apply ra | apply rn | apply rd); exact (rs2 HOz44 BKz54 (by decide))))) (Kd.R_lt (by (with_reducible repeat first | apply ra | apply rn | apply rd); exact (rs2 HOz52 BKz54 (by decide))))) (below_size (by repeat first | (with_reducible first | exact HB.out | apply ba | apply bn | apply bd | refine bs (by assumption) ?_) | exact HB.out))); have n13_ := am (blk_below (g := gbz9) (o := .cells #[.slice Ao11 tz2.length co11, .slice Ao13 tz5.length co13] 30 (0, 0)) (by (with_reducible repeat (first | refine blk_drewN ?_ _ | refine blk_drew ?_ | refine blk_alloc ?_ _)); refine blk_far ?_ NBz9_z54.out _; refine blk_far ?_ NBz9_z54.out _; exact pk BKz9) hb); have n14_ := am (blk_below (g := gbz38) (o := .cells #[.slice Ao57 tz31.length co57, .slice Ao60 tz34.length co60] 30 (0, 0)) (by (with_reducible repeat (first | refine blk_drewN ?_ _ | refine blk_drew ?_ | refine blk_alloc ?_ _)); refine blk_far ?_ NBz38_z54.out _; refine blk_far ?_ NBz38_z54.out _; exact pk BKz38) hb); have n15_ := am (blk_below (g := gbz46) (o := .cells #[.slice Ao65 tz39.length co65, .slice Ao69 tz42.length co69] 30 (0, 0)) (by (with_reducible repeat (first | refine blk_drewN ?_ _ | refine blk_drew ?_ | refine blk_alloc ?_ _)); refine blk_far ?_ NBz46_z54.out _; refine blk_far ?_ NBz46_z54.out _; exact pk BKz46) hb); have n16_ := am (blk_below (g := gbz54) (o := .cells #[.slice Ao73 tz47.length co73, .slice Ao78 tz50.length co78] 30 (0, 0)) (by (with_reducible repeat (first | refine blk_drewN ?_ _ | refine blk_drew ?_ | refine blk_alloc ?_ _)); apply bp2; exact pk BKz54) hb); have n17_ := am (below_step (by repeat first | (with_reducible first | exact HB.out | apply ba | apply bn | apply bd | refine bs (by assumption) ?_) | exact HB.out) hb); clear HO_11; clear HO_12; clear HO_13; clear HO_z10000; clear HO_z10001; clear HOz33; clear HOz36; clear HOz41; clear HOz44; clear HOz49; clear HOz52; clear BKz9; clear BKz38; clear BKz46; clear BKz54; clear HB; have HO_11 := n0_; have HO_12 := n1_; have HO_13 := n2_; have HO_z10000 := n3_; have HO_z10001 := n4_; have HOz33 := n5_; have HOz36 := n6_; have HOz41 := n7_; have HOz44 := n8_; have HOz49 := n9_; have HOz52 := n10_; have HOz57 := n11_; have HOz60 := n12_; have BKz9 := n13_; have BKz38 := n14_; have BKz46 := n15_; have BKz54 := n16_; have HB := n17_; clear n0_ n1_ n2_ n3_ n4_ n5_ n6_ n7_ n8_ n9_ n10_ n11_ n12_ n13_ n14_ n15_ n16_ n17_; (try clear ho1)) | ((with_reducible refine gate_dst (N := 22) rfl ?_); (try (refine gate_guard (by rfl) ?_; dsimp only)); refine box_event ?hg (N := 22) ?hd (cs := #[.slice none 0 0, .slice none 0 0]) (t := 30) ?hr ?_; (case hd => rfl); (case hg => rfl); (case hr => first | (go_simp; done) | (go_simp; rfl)); intro gbz62 hg w82 hbox hb; have n0_ := am (Kd.R_below (pr HO_11) hb); have n1_ := am (Kd.R_below (pr HO_12) hb); have n2_ := am (Kd.R_below (pr HO_13) hb); have n3_ := am (Kd.R_below (pr HO_z10000) hb); have n4_ := am (Kd.R_below (pr HO_z10001) hb); have n5_ := am (Kd.R_below (pr HOz33) hb); have n6_ := am (Kd.R_below (pr HOz36) hb); have n7_ := am (Kd.R_below (pr HOz41) hb); have n8_ := am (Kd.R_below (pr HOz44) hb); have n9_ := am (Kd.R_below (pr HOz49) hb); have n10_ := am (Kd.R_below (pr HOz52) hb); have n11_ := am (Kd.R_below (pr HOz57) hb); have n12_ := am (Kd.R_below (pr HOz60) hb); have n13_ := am (blk_below (pk BKz9) hb); have n14_ := am (blk_below (pk BKz38) hb); have n15_ := am (blk_below (pk BKz46) hb); have n16_ := am (blk_below (pk BKz54) hb); have n17_ := am (below_step (by repeat first | (with_reducible first | exact HB.out | apply ba | apply bn | apply bd | refine bs (by assumption) ?_) | exact HB.out) hb); have n18_ := am (hbox); have n19_ := ge_ hg (by repeat first | (with_reducible first | exact HB.out | apply ba | apply bn | apply bd | refine bs (by assumption) ?_) | exact HB.out); have n20_ := ge_ hg (by repeat first | (with_reducible first | exact HB.out | apply ba | apply bn | apply bd | refine bs (by assumption) ?_) | exact HB.out); have n21_ := nl_ hg BKz9; have n22_ := ng_ hg BKz9; have n23_ := nl_ hg BKz38; have n24_ := ng_ hg BKz38; have n25_ := nl_ hg BKz46; have n26_ := ng_ hg BKz46; have n27_ := nl_ hg BKz54; have n28_ := ng_ hg BKz54; clear HO_11; clear HO_12; clear HO_13; clear HO_z10000; clear HO_z10001; clear HOz33; clear HOz36; clear HOz41; clear HOz44; clear HOz49; clear HOz52; clear HOz57; clear HOz60; clear BKz9; clear BKz38; clear BKz46; clear BKz54; clear HB; have HO_11 := n0_; have HO_12 := n1_; have HO_13 := n2_; have HO_z10000 := n3_; have HO_z10001 := n4_; have HOz33 := n5_; have HOz36 := n6_; have HOz41 := n7_; have HOz44 := n8_; have HOz49 := n9_; have HOz52 := n10_; have HOz57 := n11_; have HOz60 := n12_; have BKz9 := n13_; have BKz38 := n14_; have BKz46 := n15_; have BKz54 := n16_; have HB := n17_; have BKz62 := n18_; have GWz62 := n19_; have GEz62 := n20_; have NBz9_z62 := n21_; have NBz62_z9 := n22_; have NBz38_z62 := n23_; have NBz62_z38 := n24_; have NBz46_z62 := n25_; have NBz62_z46 := n26_; have NBz54_z62 := n27_; have NBz62_z54 := n28_; clear n0_ n1_ n2_ n3_ n4_ n5_ n6_ n7_ n8_ n9_ n10_ n11_ n12_ n13_ n14_ n15_ n16_ n17_ n18_ n19_ n20_ n21_ n22_ n23_ n24_ n25_ n26_ n27_ n28_; clear hb hbox hg; obtain ⟨Ao83, co83, eo83⟩ := Kd.R_slice HOz57.out; subst eo83; have hnb84 := NBz62_z9.out; have hnc84 := NBz9_z62.out; have hnb85 := NBz62_z38.out; have hnc85 := NBz38_z62.out; have hnb86 := NBz62_z46.out; have hnc86 := NBz46_z62.out; have hnb87 := NBz62_z54.out; have hnc87 := NBz54_z62.out; obtain ⟨hcz88_0, hcz88_1⟩ := bc2 BKz62; obtain ⟨hfz88_0, hfz88_1⟩ := bf2 BKz62; obtain ⟨Ao89, co89, eo89⟩ := Kd.R_slice HOz60.out; subst eo89)); go_upto_region 26 with (first | (go_at_call 25; (with_reducible refine (disk_Do.calls _ _ tz2 _ _ tz5 _ _ tz11 tz31 tz34 tz37 _ ?side1 ?side2 ?side3 ?side4 ?side5 ?side6 A48.out).mono ?_); (case side1 => repeat (first | exact (Kd.R_reads' HO_z10000.out).2.2 | (with_reducible refine Kd.C_alloc ?_ _) | (with_reducible refine Kd.C_drewN ?_ _) | (with_reducible refine Kd.C_drew ?_))); (case side2 => exact (Kd.R_reads' HO_z10000.out).2.1); (case side3 => repeat (first | exact (Kd.R_reads' HO_z10001.out).2.2 | (with_reducible refine Kd.C_alloc ?_ _) | (with_reducible refine Kd.C_drewN ?_ _) | (with_reducible refine Kd.C_drew ?_))); (case side4 => exact (Kd.R_reads' HO_z10001.out).2.1); (case side5 => repeat (first | exact (Kd.R_reads' HO_11.out).2.2 | (with_reducible refine Kd.C_alloc ?_ _) | (with_reducible refine Kd.C_drewN ?_ _) | (with_reducible refine Kd.C_drew ?_))); (case side6 => exact (Kd.R_reads' HO_11.out).2.1); rintro e w55 ⟨vz32, vz35, rfl, ho0, ho1, hb⟩; have n0_ := am (Kd.R_elder' (pr HO_11) (Kd.R_base ho1) hb); have n1_ := am (Kd.R_elder' (pr HO_12) (Kd.R_base ho1) hb); have n2_ := am (Kd.R_below (pr HO_13) hb); have n3_ := am (Kd.R_elder' (pr HO_z10000) (Kd.R_base ho0) hb); have n4_ := am (Kd.R_elder' (pr HO_z10001) (Kd.R_base ho1) hb); have n5_ := am (Kd.R_lower (Kd.R_new' ho0 (Kd.R_lt (pr HO_z10000))) (below_size (by repeat first | (with_reducible first | exact HB.out | apply ba | apply bn | apply bd | refine bs (by assumption) ?_) | exact HB.out))); have n6_ := am (Kd.R_lower (Kd.R_new' (Kd.R_new' (Kd.R_new' ho1 (Kd.R_lt (pr HO_11))) (Kd.R_lt (pr HO_12))) (Kd.R_lt (pr HO_z10001))) (below_size (by repeat first | (with_reducible first | exact HB.out | apply ba | apply bn | apply bd | refine bs (by assumption) ?_) | exact HB.out))); have n7_ := am (blk_below (pk BKz9) hb); have n8_ := am (below_step (by repeat first | (with_reducible first | exact HB.out | apply ba | apply bn | apply bd | refine bs (by assumption) ?_) | exact HB.out) hb); clear HO_11; clear HO_12; clear HO_13; clear HO_z10000; clear HO_z10001; clear BKz9; clear HB; have HO_11 := n0_; have HO_12 := n1_; have HO_13 := n2_; have HO_z10000 := n3_; have HO_z10001 := n4_; have HOz33 := n5_; have HOz36 := n6_; have BKz9 := n7_; have HB := n8_; clear n0_ n1_ n2_ n3_ n4_ n5_ n6_ n7_ n8_; (try clear ho1)) | ((with_reducible refine gate_dst (N := 16) rfl ?_); (try (refine gate_guard (by rfl) ?_; dsimp only)); refine box_event ?hg (N := 16) ?hd (cs := #[.slice none 0 0, .slice none 0 0]) (t := 30) ?hr ?_; (case hd => rfl); (case hg => rfl); (case hr => first | (go_simp; done) | (go_simp; rfl)); intro gbz38 hg w56 hbox hb; have n0_ := am (Kd.R_below (pr HO_11) hb); have n1_ := am (Kd.R_below (pr HO_12) hb); have n2_ := am (Kd.R_below (pr HO_13) hb); have n3_ := am (Kd.R_below (pr HO_z10000) hb); have n4_ := am (Kd.R_below (pr HO_z10001) hb); have n5_ := am (Kd.R_below (pr HOz33) hb); have n6_ := am (Kd.R_below (pr HOz36) hb); have n7_ := am (blk_below (pk BKz9) hb); have n8_ := am (below_step (by repeat first | (with_reducible first | exact HB.out | apply ba | apply bn | apply bd | refine bs (by assumption) ?_) | exact HB.out) hb); have n9_ := am (hbox); have n10_ := ge_ hg (by repeat first | (with_reducible first | exact HB.out | apply ba | apply bn | apply bd | refine bs (by assumption) ?_) | exact HB.out); have n11_ := ge_ hg (by repeat first | (with_reducible first | exact HB.out | apply ba | apply bn | apply bd | refine bs (by assumption) ?_) | exact HB.out); have n12_ := nl_ hg BKz9; have n13_ := ng_ hg BKz9; clear HO_11; clear HO_12; clear HO_13; clear HO_z10000; clear HO_z10001; clear HOz33; clear HOz36; clear BKz9; clear HB; have HO_11 := n0_; have HO_12 := n1_; have HO_13 := n2_; have HO_z10000 := n3_; have HO_z10001 := n4_; have HOz33 := n5_; have HOz36 := n6_; have BKz9 := n7_; have HB := n8_; have BKz38 := n9_; have GWz38 := n10_; have GEz38 := n11_; have NBz9_z38 := n12_; have NBz38_z9 := n13_; clear n0_ n1_ n2_ n3_ n4_ n5_ n6_ n7_ n8_ n9_ n10_ n11_ n12_ n13_; clear hb hbox hg; obtain ⟨Ao57, co57, eo57⟩ := Kd.R_slice HOz33.out; subst eo57; have hnb58 := NBz38_z9.out; have hnc58 := NBz9_z38.out; obtain ⟨hcz59_0, hcz59_1⟩ := bc2 BKz38; obtain ⟨hfz59_0, hfz59_1⟩ := bf2 BKz38; obtain ⟨Ao60, co60, eo60⟩ := Kd.R_slice HOz36.out; subst eo60; obtain ⟨hcz61_0, hcz61_1⟩ := bc2 BKz9; obtain ⟨hfz61_0, hfz61_1⟩ := bf2 BKz9; obtain ⟨Ao62, co62, eo62⟩ := Kd.R_slice HO_12.out; subst eo62) | (go_at_call 25; (with_reducible refine (disk_Do.calls _ _ tz2 _ _ tz5 _ _ x12_1 tz39 tz42 tz45 _ ?side1 ?side2 ?side3 ?side4 ?side5 ?side6 A49.out).mono ?_); (case side1 => refine (Kd.R_reads' (e := 9) (base := w.heap.size) (ok := fun k_ => (True ∧ some k_ ≠ (.slice Ao57 tz31.length co57 : Value).ownBlock)) (n := tz2.length) (c := co11) ?_).2.2; exact (by (with_reducible repeat first | apply ra | apply rn | apply rd); exact (rs2 HO_z10000 BKz38 (by decide)))); (case side2 => exact (Kd.R_reads' HO_z10000.out).2.1); (case side3 => refine (Kd.R_reads' (e := 24) (base := w.heap.size) (ok := fun k_ => ((some k_ ≠ (.slice Ao53 tz11.length co53 : Value).ownBlock ∧ some k_ ≠ (.slice Ao62 x12_1.length co62 : Value).ownBlock) ∧ some k_ ≠ (.slice Ao60 tz34.length co60 : Value).ownBlock)) (n := tz5.length) (c := co13) ?_).2.2; exact (by (with_reducible repeat first | apply ra | apply rn | apply rd); exact (rs2 HO_z10001 BKz38 (by decide)))); (case side4 => exact (Kd.R_reads' HO_z10001.out).2.1); (case side5 => refine (Kd.R_reads' (e := 24) (base := w.heap.size) (ok := fun k_ => ((some k_ ≠ (.slice Ao53 tz11.length co53 : Value).ownBlock ∧ some k_ ≠ (.slice Ao13 tz5.length co13 : Value).ownBlock) ∧ some k_ ≠ (.slice Ao60 tz34.length co60 : Value).ownBlock)) (n := x12_1.length) (c := co62) ?_).2.2; exact (by (with_reducible repeat first | apply ra | apply rn | apply rd); exact (rs2 HO_12 BKz38 (by decide)))); (case side6 => exact (Kd.R_reads' HO_12.out).2.1); rintro e w63 ⟨vz40, vz43, rfl, ho0, ho1, hb⟩; have n0_ := am (Kd.R_elder' (by (with_reducible repeat first | apply ra | apply rn | apply rd); exact (rs2 HO_11 BKz38 (by decide))) (Kd.R_base ho1) hb); have n1_ := am (Kd.R_elder' (by (with_reducible repeat first | apply ra | apply rn | apply rd); exact (rs2 HO_12 BKz38 (by decide))) (Kd.R_base ho1) hb); have n2_ := am (Kd.R_below (by (with_reducible repeat first | apply ra | apply rn | apply rd); exact (rs2 HO_13 BKz38 (by decide))) hb); have n3_ := am (Kd.R_elder' (by (with_reducible repeat first | apply ra | apply rn | apply rd); exact (rs2 HO_z10000 BKz38 (by decide))) (Kd.R_base ho0) hb); have n4_ := am (Kd.R_elder' (by (with_reducible repeat first | apply ra | apply rn | apply rd); exact (rs2 HO_z10001 BKz38 (by decide))) (Kd.R_base ho1) hb); have n5_ := am (Kd.R_elder' (by (with_reducible repeat first | apply ra | apply rn | apply rd); exact (rs2 HOz33 BKz38 (by decide))) (Kd.R_base ho0) hb); have n6_ := am (Kd.R_elder' (by (with_reducible repeat first | apply ra | apply rn | apply rd); exact (rs2 HOz36 BKz38 (by decide))) (Kd.R_base ho1) hb); have n7_ := am (Kd.R_lower (Kd.R_new' (Kd.R_new' ho0 (Kd.R_lt (by (with_reducible repeat first | apply ra | apply rn | apply rd); exact (rs2 HO_z10000 BKz38 (by decide))))) (Kd.R_lt (by (with_reducible repeat first | apply ra | apply rn | apply rd); exact (rs2 HOz33 BKz38 (by decide))))) (below_size (by repeat first | (with_reducible first | exact HB.out | apply ba | apply bn | apply bd | refine bs (by assumption) ?_) | exact HB.out))); have n8_ := am (Kd.R_lower (Kd.R_new' (Kd.R_new' (Kd.R_new' (Kd.R_new' ho1 (Kd.R_lt (by (with_reducible repeat first | apply ra | apply rn | apply rd); exact (rs2 HO_11 BKz38 (by decide))))) (Kd.R_lt (by (with_reducible repeat first | apply ra | apply rn | apply rd); exact (rs2 HO_12 BKz38 (by decide))))) (Kd.R_lt (by (with_reducible repeat first | apply ra | apply rn | apply rd); exact (rs2 HO_z10001 BKz38 (by decide))))) (Kd.R_lt (by (with_reducible repeat first | apply ra | apply rn | apply rd); exact (rs2 HOz36 BKz38 (by decide))))) (below_size (by repeat first | (with_reducible first | exact HB.out | apply ba | apply bn | apply bd | refine bs (by assumption) ?_) | exact HB.out))); have n9_ := am (blk_below (g := gbz9) (o := .cells #[.slice Ao11 tz2.length co11, .slice Ao13 tz5.length co13] 30 (0, 0)) (by (with_reducible repeat (first | refine blk_drewN ?_ _ | refine blk_drew ?_ | refine blk_alloc ?_ _)); refine blk_far ?_ NBz9_z38.out _; refine blk_far ?_ NBz9_z38.out _; exact pk BKz9) hb); have n10_ := am (blk_below (g := gbz38) (o := .cells #[.slice Ao57 tz31.length co57, .slice Ao60 tz34.length co60] 30 (0, 0)) (by (with_reducible repeat (first | refine blk_drewN ?_ _ | refine blk_drew ?_ | refine blk_alloc ?_ _)); apply bp2; exact pk BKz38) hb); have n11_ := am (below_step (by repeat first | (with_reducible first | exact HB.out | apply ba | apply bn | apply bd | refine bs (by assumption) ?_) | exact HB.out) hb); clear HO_11; clear HO_12; clear HO_13; clear HO_z10000; clear HO_z10001; clear HOz33; clear HOz36; clear BKz9; clear BKz38; clear HB; have HO_11 := n0_; have HO_12 := n1_; have HO_13 := n2_; have HO_z10000 := n3_; have HO_z10001 := n4_; have HOz33 := n5_; have HOz36 := n6_; have HOz41 := n7_; have HOz44 := n8_; have BKz9 := n9_; have BKz38 := n10_; have HB := n11_; clear n0_ n1_ n2_ n3_ n4_ n5_ n6_ n7_ n8_ n9_ n10_ n11_; (try clear ho1)) | ((with_reducible refine gate_dst (N := 18) rfl ?_); (try (refine gate_guard (by rfl) ?_; dsimp only)); refine box_event ?hg (N := 18) ?hd (cs := #[.slice none 0 0, .slice none 0 0]) (t := 30) ?hr ?_; (case hd => rfl); (case hg => rfl); (case hr => first | (go_simp; done) | (go_simp; rfl)); intro gbz46 hg w64 hbox hb; have n0_ := am (Kd.R_below (pr HO_11) hb); have n1_ := am (Kd.R_below (pr HO_12) hb); have n2_ := am (Kd.R_below (pr HO_13) hb); have n3_ := am (Kd.R_below (pr HO_z10000) hb); have n4_ := am (Kd.R_below (pr HO_z10001) hb); have n5_ := am (Kd.R_below (pr HOz33) hb); have n6_ := am (Kd.R_below (pr HOz36) hb); have n7_ := am (Kd.R_below (pr HOz41) hb); have n8_ := am (Kd.R_below (pr HOz44) hb); have n9_ := am (blk_below (pk BKz9) hb); have n10_ := am (blk_below (pk BKz38) hb); have n11_ := am (below_step (by repeat first | (with_reducible first | exact HB.out | apply ba | apply bn | apply bd | refine bs (by assumption) ?_) | exact HB.out) hb); have n12_ := am (hbox); have n13_ := ge_ hg (by repeat first | (with_reducible first | exact HB.out | apply ba | apply bn | apply bd | refine bs (by assumption) ?_) | exact HB.out); have n14_ := ge_ hg (by repeat first | (with_reducible first | exact HB.out | apply ba | apply bn | apply bd | refine bs (by assumption) ?_) | exact HB.out); have n15_ := nl_ hg BKz9; have n16_ := ng_ hg BKz9; have n17_ := nl_ hg BKz38; have n18_ := ng_ hg BKz38; clear HO_11; clear HO_12; clear HO_13; clear HO_z10000; clear HO_z10001; clear HOz33; clear HOz36; clear HOz41; clear HOz44; clear BKz9; clear BKz38; clear HB; have HO_11 := n0_; have HO_12 := n1_; have HO_13 := n2_; have HO_z10000 := n3_; have HO_z10001 := n4_; have HOz33 := n5_; have HOz36 := n6_; have HOz41 := n7_; have HOz44 := n8_; have BKz9 := n9_; have BKz38 := n10_; have HB := n11_; have BKz46 := n12_; have GWz46 := n13_; have GEz46 := n14_; have NBz9_z46 := n15_; have NBz46_z9 := n16_; have NBz38_z46 := n17_; have NBz46_z38 := n18_; clear n0_ n1_ n2_ n3_ n4_ n5_ n6_ n7_ n8_ n9_ n10_ n11_ n12_ n13_ n14_ n15_ n16_ n17_ n18_; clear hb hbox hg; obtain ⟨Ao65, co65, eo65⟩ := Kd.R_slice HOz41.out; subst eo65; have hnb66 := NBz46_z9.out; have hnc66 := NBz9_z46.out; have hnb67 := NBz46_z38.out; have hnc67 := NBz38_z46.out; obtain ⟨hcz68_0, hcz68_1⟩ := bc2 BKz46; obtain ⟨hfz68_0, hfz68_1⟩ := bf2 BKz46; obtain ⟨Ao69, co69, eo69⟩ := Kd.R_slice HOz44.out; subst eo69; obtain ⟨hcz70_0, hcz70_1⟩ := bc2 BKz38; obtain ⟨hfz70_0, hfz70_1⟩ := bf2 BKz38) | (go_at_call 26; (with_reducible refine (disk_Crash.calls _ _ tz31 _ _ tz34 _ _ l2 tz47 tz50 tz53 _ ?side1 ?side2 ?side3 ?side4 ?side5 ?side6 A50.out).mono ?_); (case side1 => refine (Kd.R_reads' (e := 9) (base := w.heap.size) (ok := fun k_ => ((True ∧ some k_ ≠ (.slice Ao11 tz2.length co11 : Value).ownBlock) ∧ some k_ ≠ (.slice Ao65 tz39.length co65 : Value).ownBlock)) (n := tz31.length) (c := co57) ?_).2.2; exact (by (with_reducible repeat first | apply ra | apply rn | apply rd); exact (rs2 HOz33 BKz46 (by decide)))); (case side2 => exact (Kd.R_reads' HOz33.out).2.1); (case side3 => refine (Kd.R_reads' (e := 24) (base := w.heap.size) (ok := fun k_ => ((((True ∧ some k_ ≠ (.slice Ao53 tz11.length co53 : Value).ownBlock) ∧ some k_ ≠ (.slice Ao62 x12_1.length co62 : Value).ownBlock) ∧ some k_ ≠ (.slice Ao13 tz5.length co13 : Value).ownBlock) ∧ some k_ ≠ (.slice Ao69 tz42.length co69 : Value).ownBlock)) (n := tz34.length) (c := co60) ?_).2.2; exact (by (with_reducible repeat first | apply ra | apply rn | apply rd); exact (rs2 HOz36 BKz46 (by decide)))); (case side4 => exact (Kd.R_reads' HOz36.out).2.1); (case side5 => exact Kd.C_below HR2.out (by repeat first | (with_reducible first | exact HB.out | apply ba | apply bn | apply bd | refine bs (by assumption) ?_) | exact HB.out)); (case side6 => exact HC2.out); rintro e w71 ⟨vz48, vz51, rfl, ho0, ho1, hb⟩; have n0_ := am (Kd.R_elder' (by (with_reducible repeat first | apply ra | apply rn | apply rd); exact (rs2 HO_11 BKz46 (by decide))) (Kd.R_base ho1) hb); have n1_ := am (Kd.R_elder' (by (with_reducible repeat first | apply ra | apply rn | apply rd); exact (rs2 HO_12 BKz46 (by decide))) (Kd.R_base ho1) hb); have n2_ := am (Kd.R_below (by (with_reducible repeat first | apply ra | apply rn | apply rd); exact (rs2 HO_13 BKz46 (by decide))) hb); have n3_ := am (Kd.R_elder' (by (with_reducible repeat first | apply ra | apply rn | apply rd); exact (rs2 HO_z10000 BKz46 (by decide))) (Kd.R_base ho0) hb); have n4_ := am (Kd.R_elder' (by (with_reducible repeat first | apply ra | apply rn | apply rd); exact (rs2 HO_z10001 BKz46 (by decide))) (Kd.R_base ho1) hb); have n5_ := am (Kd.R_elder' (by (with_reducible repeat first | apply ra | apply rn | apply rd); exact (rs2 HOz33 BKz46 (by decide))) (Kd.R_base ho0) hb); have n6_ := am (Kd.R_elder' (by (with_reducible repeat first | apply ra | apply rn | apply rd); exact (rs2 HOz36 BKz46 (by decide))) (Kd.R_base ho1) hb); have n7_ := am (Kd.R_elder' (by (with_reducible repeat first | apply ra | apply rn | apply rd); exact (rs2 HOz41 BKz46 (by decide))) (Kd.R_base ho0) hb); have n8_ := am (Kd.R_elder' (by (with_reducible repeat first | apply ra | apply rn | apply rd); exact (rs2 HOz44 BKz46 (by decide))) (Kd.R_base ho1) hb); have n9_ := am (Kd.R_lower (Kd.R_new' (Kd.R_new' (Kd.R_new' ho0 (Kd.R_lt (by (with_reducible repeat first | apply ra | apply rn | apply rd); exact (rs2 HO_z10000 BKz46 (by decide))))) (Kd.R_lt (by (with_reducible repeat first | apply ra | apply rn | apply rd); exact (rs2 HOz33 BKz46 (by decide))))) (Kd.R_lt (by (with_reducible repeat first | apply ra | apply rn | apply rd); exact (rs2 HOz41 BKz46 (by decide))))) (below_size (by repeat first | (with_reducible first | exact HB.out | apply ba | apply bn | apply bd | refine bs (by assumption) ?_) | exact HB.out))); have n10_ := am (Kd.R_lower (Kd.R_new' (Kd.R_new' (Kd.R_new' (Kd.R_new' (Kd.R_new' ho1 (Kd.R_lt (by (with_reducible repeat first | apply ra | apply rn | apply rd); exact (rs2 HO_11 BKz46 (by decide))))) (Kd.R_lt (by (with_reducible repeat first | apply ra | apply rn | apply rd); exact (rs2 HO_12 BKz46 (by decide))))) (Kd.R_lt (by (with_reducible repeat first | apply ra | apply rn | apply rd); exact (rs2 HO_z10001 BKz46 (by decide))))) (Kd.R_lt (by (with_reducible repeat first | apply ra | apply rn | apply rd); exact (rs2 HOz36 BKz46 (by decide))))) (Kd.R_lt (by (with_reducible repeat first | apply ra | apply rn | apply rd); exact (rs2 HOz44 BKz46 (by decide))))) (below_size (by repeat first | (with_reducible first | exact HB.out | apply ba | apply bn | apply bd | refine bs (by assumption) ?_) | exact HB.out))); have n11_ := am (blk_below (g := gbz9) (o := .cells #[.slice Ao11 tz2.length co11, .slice Ao13 tz5.length co13] 30 (0, 0)) (by (with_reducible repeat (first | refine blk_drewN ?_ _ | refine blk_drew ?_ | refine blk_alloc ?_ _)); refine blk_far ?_ NBz9_z46.out _; refine blk_far ?_ NBz9_z46.out _; exact pk BKz9) hb); have n12_ := am (blk_below (g := gbz38) (o := .cells #[.slice Ao57 tz31.length co57, .slice Ao60 tz34.length co60] 30 (0, 0)) (by (with_reducible repeat (first | refine blk_drewN ?_ _ | refine blk_drew ?_ | refine blk_alloc ?_ _)); refine blk_far ?_ NBz38_z46.out _; refine blk_far ?_ NBz38_z46.out _; exact pk BKz38) hb); have n13_ := am (blk_below (g := gbz46) (o := .cells #[.slice Ao65 tz39.length co65, .slice Ao69 tz42.length co69] 30 (0, 0)) (by (with_reducible repeat (first | refine blk_drewN ?_ _ | refine blk_drew ?_ | refine blk_alloc ?_ _)); apply bp2; exact pk BKz46) hb); have n14_ := am (below_step (by repeat first | (with_reducible first | exact HB.out | apply ba | apply bn | apply bd | refine bs (by assumption) ?_) | exact HB.out) hb); clear HO_11; clear HO_12; clear HO_13; clear HO_z10000; clear HO_z10001; clear HOz33; clear HOz36; clear HOz41; clear HOz44; clear BKz9; clear BKz38; clear BKz46; clear HB; have HO_11 := n0_; have HO_12 := n1_; have HO_13 := n2_; have HO_z10000 := n3_; have HO_z10001 := n4_; have HOz33 := n5_; have HOz36 := n6_; have HOz41 := n7_; have HOz44 := n8_; have HOz49 := n9_; have HOz52 := n10_; have BKz9 := n11_; have BKz38 := n12_; have BKz46 := n13_; have HB := n14_; clear n0_ n1_ n2_ n3_ n4_ n5_ n6_ n7_ n8_ n9_ n10_ n11_ n12_ n13_ n14_; (try clear ho1)) | ((with_reducible refine gate_dst (N := 20) rfl ?_); (try (refine gate_guard (by rfl) ?_; dsimp only)); refine box_event ?hg (N := 20) ?hd (cs := #[.slice none 0 0, .slice none 0 0]) (t := 30) ?hr ?_; (case hd => rfl); (case hg => rfl); (case hr => first | (go_simp; done) | (go_simp; rfl)); intro gbz54 hg w72 hbox hb; have n0_ := am (Kd.R_below (pr HO_11) hb); have n1_ := am (Kd.R_below (pr HO_12) hb); have n2_ := am (Kd.R_below (pr HO_13) hb); have n3_ := am (Kd.R_below (pr HO_z10000) hb); have n4_ := am (Kd.R_below (pr HO_z10001) hb); have n5_ := am (Kd.R_below (pr HOz33) hb); have n6_ := am (Kd.R_below (pr HOz36) hb); have n7_ := am (Kd.R_below (pr HOz41) hb); have n8_ := am (Kd.R_below (pr HOz44) hb); have n9_ := am (Kd.R_below (pr HOz49) hb); have n10_ := am (Kd.R_below (pr HOz52) hb); have n11_ := am (blk_below (pk BKz9) hb); have n12_ := am (blk_below (pk BKz38) hb); have n13_ := am (blk_below (pk BKz46) hb); have n14_ := am (below_step (by repeat first | (with_reducible first | exact HB.out | apply ba | apply bn | apply bd | refine bs (by assumption) ?_) | exact HB.out) hb); have n15_ := am (hbox); have n16_ := ge_ hg (by repeat first | (with_reducible first | exact HB.out | apply ba | apply bn | apply bd | refine bs (by assumption) ?_) | exact HB.out); have n17_ := ge_ hg (by repeat first | (with_reducible first | exact HB.out | apply ba | apply bn | apply bd | refine bs (by assumption) ?_) | exact HB.out); have n18_ := nl_ hg BKz9; have n19_ := ng_ hg BKz9; have n20_ := nl_ hg BKz38; have n21_ := ng_ hg BKz38; have n22_ := nl_ hg BKz46; have n23_ := ng_ hg BKz46; clear HO_11; clear HO_12; clear HO_13; clear HO_z10000; clear HO_z10001; clear HOz33; clear HOz36; clear HOz41; clear HOz44; clear HOz49; clear HOz52; clear BKz9; clear BKz38; clear BKz46; clear HB; have HO_11 := n0_; have HO_12 := n1_; have HO_13 := n2_; have HO_z10000 := n3_; have HO_z10001 := n4_; have HOz33 := n5_; have HOz36 := n6_; have HOz41 := n7_; have HOz44 := n8_; have HOz49 := n9_; have HOz52 := n10_; have BKz9 := n11_; have BKz38 := n12_; have BKz46 := n13_; have HB := n14_; have BKz54 := n15_; have GWz54 := n16_; have GEz54 := n17_; have NBz9_z54 := n18_; have NBz54_z9 := n19_; have NBz38_z54 := n20_; have NBz54_z38 := n21_; have NBz46_z54 := n22_; have NBz54_z46 := n23_; clear n0_ n1_ n2_ n3_ n4_ n5_ n6_ n7_ n8_ n9_ n10_ n11_ n12_ n13_ n14_ n15_ n16_ n17_ n18_ n19_ n20_ n21_ n22_ n23_; clear hb hbox hg; obtain ⟨Ao73, co73, eo73⟩ := Kd.R_slice HOz49.out; subst eo73; have hnb74 := NBz54_z9.out; have hnc74 := NBz9_z54.out; have hnb75 := NBz54_z38.out; have hnc75 := NBz38_z54.out; have hnb76 := NBz54_z46.out; have hnc76 := NBz46_z54.out; obtain ⟨hcz77_0, hcz77_1⟩ := bc2 BKz54; obtain ⟨hfz77_0, hfz77_1⟩ := bf2 BKz54; obtain ⟨Ao78, co78, eo78⟩ := Kd.R_slice HOz52.out; subst eo78; obtain ⟨hcz79_0, hcz79_1⟩ := bc2 BKz46; obtain ⟨hfz79_0, hfz79_1⟩ := bf2 BKz46; obtain ⟨Ao80, co80, eo80⟩ := Kd.R_slice HO_13.out; subst eo80) | (go_at_call 26; (with_reducible refine (disk_Crash.calls _ _ tz39 _ _ tz42 _ _ x13_1 tz55 tz58 tz61 _ ?side1 ?side2 ?side3 ?side4 ?side5 ?side6 A51.out).mono ?_); (case side1 => refine (Kd.R_reads' (e := 9) (base := w.heap.size) (ok := fun k_ => (((True ∧ some k_ ≠ (.slice Ao11 tz2.length co11 : Value).ownBlock) ∧ some k_ ≠ (.slice Ao57 tz31.length co57 : Value).ownBlock) ∧ some k_ ≠ (.slice Ao73 tz47.length co73 : Value).ownBlock)) (n := tz39.length) (c := co65) ?_).2.2; exact (by (with_reducible repeat first | apply ra | apply rn | apply rd); exact (rs2 HOz41 BKz54 (by decide)))); (case side2 => exact (Kd.R_reads' HOz41.out).2.1); (case side3 => refine (Kd.R_reads' (e := 24) (base := w.heap.size) (ok := fun k_ => (((((True ∧ some k_ ≠ (.slice Ao53 tz11.length co53 : Value).ownBlock) ∧ some k_ ≠ (.slice Ao62 x12_1.length co62 : Value).ownBlock) ∧ some k_ ≠ (.slice Ao13 tz5.length co13 : Value).ownBlock) ∧ some k_ ≠ (.slice Ao60 tz34.length co60 : Value).ownBlock) ∧ some k_ ≠ (.slice Ao78 tz50.length co78 : Value).ownBlock)) (n := tz42.length) (c := co69) ?_).2.2; exact (by (with_reducible repeat first | apply ra | apply rn | apply rd); exact (rs2 HOz44 BKz54 (by decide)))); (case side4 => exact (Kd.R_reads' HOz44.out).2.1); (case side5 => refine (Kd.R_reads' (e := 3) (base := w.heap.size) (ok := fun k_ => True) (n := x13_1.length) (c := co80) ?_).2.2; exact (by (with_reducible repeat first | apply ra | apply rn | apply rd); exact (rs2 HO_13 BKz54 (by decide)))); (case side6 => exact (Kd.R_reads' HO_13.out).2.1); rintro e w81 ⟨vz56, vz59, rfl, ho0, ho1, hb⟩; have n0_ := am (Kd.R_elder' (by (with_reducible repeat first | apply ra | apply rn | apply rd); exact (rs2 HO_11 BKz54 (by decide))) (Kd.R_base ho1) hb); have n1_ := am (Kd.R_elder' (by (with_reducible repeat first | apply ra | apply rn | apply rd); exact (rs2 HO_12 BKz54 (by decide))) (Kd.R_base ho1) hb); have n2_ := am (Kd.R_below (by (with_reducible repeat first | apply ra | apply rn | apply rd); exact (rs2 HO_13 BKz54 (by decide))) hb); have n3_ := am (Kd.R_elder' (by (with_reducible repeat first | apply ra | apply rn | apply rd); exact (rs2 HO_z10000 BKz54 (by decide))) (Kd.R_base ho0) hb); have n4_ := am (Kd.R_elder' (by (with_reducible repeat first | apply ra | apply rn | apply rd); exact (rs2 HO_z10001 BKz54 (by decide))) (Kd.R_base ho1) hb); have n5_ := am (Kd.R_elder' (by (with_reducible repeat first | apply ra | apply rn | apply rd); exact (rs2 HOz33 BKz54 (by decide))) (Kd.R_base ho0) hb); have n6_ := am (Kd.R_elder' (by (with_reducible repeat first | apply ra | apply rn | apply rd); exact (rs2 HOz36 BKz54 (by decide))) (Kd.R_base ho1) hb); have n7_ := am (Kd.R_elder' (by (with_reducible repeat first | apply ra | apply rn | apply rd); exact (rs2 HOz41 BKz54 (by decide))) (Kd.R_base ho0) hb); have n8_ := am (Kd.R_elder' (by (with_reducible repeat first | apply ra | apply rn | apply rd); exact (rs2 HOz44 BKz54 (by decide))) (Kd.R_base ho1) hb); have n9_ := am (Kd.R_elder' (by (with_reducible repeat first | apply ra | apply rn | apply rd); exact (rs2 HOz49 BKz54 (by decide))) (Kd.R_base ho0) hb); have n10_ := am (Kd.R_elder' (by (with_reducible repeat first | apply ra | apply rn | apply rd); exact (rs2 HOz52 BKz54 (by decide))) (Kd.R_base ho1) hb); have n11_ := am (Kd.R_lower (Kd.R_new' (Kd.R_new' (Kd.R_new' (Kd.R_new' ho0 (Kd.R_lt (by (with_reducible repeat first | apply ra | apply rn | apply rd); exact (rs2 HO_z10000 BKz54 (by decide))))) (Kd.R_lt (by (with_reducible repeat first | apply ra | apply rn | apply rd); exact (rs2 HOz33 BKz54 (by decide))))) (Kd.R_lt (by (with_reducible repeat first | apply ra | apply rn | apply rd); exact (rs2 HOz41 BKz54 (by decide))))) (Kd.R_lt (by (with_reducible repeat first | apply ra | apply rn | apply rd); exact (rs2 HOz49 BKz54 (by decide))))) (below_size (by repeat first | (with_reducible first | exact HB.out | apply ba | apply bn | apply bd | refine bs (by assumption) ?_) | exact HB.out))); have n12_ := am (Kd.R_lower (Kd.R_new' (Kd.R_new' (Kd.R_new' (Kd.R_new' (Kd.R_new' (Kd.R_new' ho1 (Kd.R_lt (by (with_reducible repeat first | apply ra | apply rn | apply rd); exact (rs2 HO_11 BKz54 (by decide))))) (Kd.R_lt (by (with_reducible repeat first | apply ra | apply rn | apply rd); exact (rs2 HO_12 BKz54 (by decide))))) (Kd.R_lt (by (with_reducible repeat first | apply ra | apply rn | apply rd); exact (rs2 HO_z10001 BKz54 (by decide))))) (Kd.R_lt (by (with_reducible repeat first | apply ra | apply rn | apply rd); exact (rs2 HOz36 BKz54 (by decide))))) (Kd.R_lt (by (with_reducible repeat first | apply ra | apply rn | apply rd); exact (rs2 HOz44 BKz54 (by decide))))) (Kd.R_lt (by (with_reducible repeat first | apply ra | apply rn | apply rd); exact (rs2 HOz52 BKz54 (by decide))))) (below_size (by repeat first | (with_reducible first | exact HB.out | apply ba | apply bn | apply bd | refine bs (by assumption) ?_) | exact HB.out))); have n13_ := am (blk_below (g := gbz9) (o := .cells #[.slice Ao11 tz2.length co11, .slice Ao13 tz5.length co13] 30 (0, 0)) (by (with_reducible repeat (first | refine blk_drewN ?_ _ | refine blk_drew ?_ | refine blk_alloc ?_ _)); refine blk_far ?_ NBz9_z54.out _; refine blk_far ?_ NBz9_z54.out _; exact pk BKz9) hb); have n14_ := am (blk_below (g := gbz38) (o := .cells #[.slice Ao57 tz31.length co57, .slice Ao60 tz34.length co60] 30 (0, 0)) (by (with_reducible repeat (first | refine blk_drewN ?_ _ | refine blk_drew ?_ | refine blk_alloc ?_ _)); refine blk_far ?_ NBz38_z54.out _; refine blk_far ?_ NBz38_z54.out _; exact pk BKz38) hb); have n15_ := am (blk_below (g := gbz46) (o := .cells #[.slice Ao65 tz39.length co65, .slice Ao69 tz42.length co69] 30 (0, 0)) (by (with_reducible repeat (first | refine blk_drewN ?_ _ | refine blk_drew ?_ | refine blk_alloc ?_ _)); refine blk_far ?_ NBz46_z54.out _; refine blk_far ?_ NBz46_z54.out _; exact pk BKz46) hb); have n16_ := am (blk_below (g := gbz54) (o := .cells #[.slice Ao73 tz47.length co73, .slice Ao78 tz50.length co78] 30 (0, 0)) (by (with_reducible repeat (first | refine blk_drewN ?_ _ | refine blk_drew ?_ | refine blk_alloc ?_ _)); apply bp2; exact pk BKz54) hb); have n17_ := am (below_step (by repeat first | (with_reducible first | exact HB.out | apply ba | apply bn | apply bd | refine bs (by assumption) ?_) | exact HB.out) hb); clear HO_11; clear HO_12; clear HO_13; clear HO_z10000; clear HO_z10001; clear HOz33; clear HOz36; clear HOz41; clear HOz44; clear HOz49; clear HOz52; clear BKz9; clear BKz38; clear BKz46; clear BKz54; clear HB; have HO_11 := n0_; have HO_12 := n1_; have HO_13 := n2_; have HO_z10000 := n3_; have HO_z10001 := n4_; have HOz33 := n5_; have HOz36 := n6_; have HOz41 := n7_; have HOz44 := n8_; have HOz49 := n9_; have HOz52 := n10_; have HOz57 := n11_; have HOz60 := n12_; have BKz9 := n13_; have BKz38 := n14_; have BKz46 := n15_; have BKz54 := n16_; have HB := n17_; clear n0_ n1_ n2_ n3_ n4_ n5_ n6_ n7_ n8_ n9_ n10_ n11_ n12_ n13_ n14_ n15_ n16_ n17_; (try clear ho1)) | ((with_reducible refine gate_dst (N := 22) rfl ?_); (try (refine gate_guard (by rfl) ?_; dsimp only)); refine box_event ?hg (N := 22) ?hd (cs := #[.slice none 0 0, .slice none 0 0]) (t := 30) ?hr ?_; (case hd => rfl); (case hg => rfl); (case hr => first | (go_simp; done) | (go_simp; rfl)); intro gbz62 hg w82 hbox hb; have n0_ := am (Kd.R_below (pr HO_11) hb); have n1_ := am (Kd.R_below (pr HO_12) hb); have n2_ := am (Kd.R_below (pr HO_13) hb); have n3_ := am (Kd.R_below (pr HO_z10000) hb); have n4_ := am (Kd.R_below (pr HO_z10001) hb); have n5_ := am (Kd.R_below (pr HOz33) hb); have n6_ := am (Kd.R_below (pr HOz36) hb); have n7_ := am (Kd.R_below (pr HOz41) hb); have n8_ := am (Kd.R_below (pr HOz44) hb); have n9_ := am (Kd.R_below (pr HOz49) hb); have n10_ := am (Kd.R_below (pr HOz52) hb); have n11_ := am (Kd.R_below (pr HOz57) hb); have n12_ := am (Kd.R_below (pr HOz60) hb); have n13_ := am (blk_below (pk BKz9) hb); have n14_ := am (blk_below (pk BKz38) hb); have n15_ := am (blk_below (pk BKz46) hb); have n16_ := am (blk_below (pk BKz54) hb); have n17_ := am (below_step (by repeat first | (with_reducible first | exact HB.out | apply ba | apply bn | apply bd | refine bs (by assumption) ?_) | exact HB.out) hb); have n18_ := am (hbox); have n19_ := ge_ hg (by repeat first | (with_reducible first | exact HB.out | apply ba | apply bn | apply bd | refine bs (by assumption) ?_) | exact HB.out); have n20_ := ge_ hg (by repeat first | (with_reducible first | exact HB.out | apply ba | apply bn | apply bd | refine bs (by assumption) ?_) | exact HB.out); have n21_ := nl_ hg BKz9; have n22_ := ng_ hg BKz9; have n23_ := nl_ hg BKz38; have n24_ := ng_ hg BKz38; have n25_ := nl_ hg BKz46; have n26_ := ng_ hg BKz46; have n27_ := nl_ hg BKz54; have n28_ := ng_ hg BKz54; clear HO_11; clear HO_12; clear HO_13; clear HO_z10000; clear HO_z10001; clear HOz33; clear HOz36; clear HOz41; clear HOz44; clear HOz49; clear HOz52; clear HOz57; clear HOz60; clear BKz9; clear BKz38; clear BKz46; clear BKz54; clear HB; have HO_11 := n0_; have HO_12 := n1_; have HO_13 := n2_; have HO_z10000 := n3_; have HO_z10001 := n4_; have HOz33 := n5_; have HOz36 := n6_; have HOz41 := n7_; have HOz44 := n8_; have HOz49 := n9_; have HOz52 := n10_; have HOz57 := n11_; have HOz60 := n12_; have BKz9 := n13_; have BKz38 := n14_; have BKz46 := n15_; have BKz54 := n16_; have HB := n17_; have BKz62 := n18_; have GWz62 := n19_; have GEz62 := n20_; have NBz9_z62 := n21_; have NBz62_z9 := n22_; have NBz38_z62 := n23_; have NBz62_z38 := n24_; have NBz46_z62 := n25_; have NBz62_z46 := n26_; have NBz54_z62 := n27_; have NBz62_z54 := n28_; clear n0_ n1_ n2_ n3_ n4_ n5_ n6_ n7_ n8_ n9_ n10_ n11_ n12_ n13_ n14_ n15_ n16_ n17_ n18_ n19_ n20_ n21_ n22_ n23_ n24_ n25_ n26_ n27_ n28_; clear hb hbox hg; obtain ⟨Ao83, co83, eo83⟩ := Kd.R_slice HOz57.out; subst eo83; have hnb84 := NBz62_z9.out; have hnc84 := NBz9_z62.out; have hnb85 := NBz62_z38.out; have hnc85 := NBz38_z62.out; have hnb86 := NBz62_z46.out; have hnc86 := NBz46_z62.out; have hnb87 := NBz62_z54.out; have hnc87 := NBz54_z62.out; obtain ⟨hcz88_0, hcz88_1⟩ := bc2 BKz62; obtain ⟨hfz88_0, hfz88_1⟩ := bf2 BKz62; obtain ⟨Ao89, co89, eo89⟩ := Kd.R_slice HOz60.out; subst eo89)))
 (try simp only [Act.put, List.setIfInBounds_toArray, List.set_cons_zero, List.set_cons_succ])
 go_cut [161] (fun v161 wc => ∃ (kq : Nat) (x161_51 : Bool), v161 = .bool x161_51 ∧ Aside0 (columbariumlaw14_DiskBlocks.j5 kq tz1 tz10 x161_51 tz31 tz34 tz39 tz42 tz47 tz50 tz55 tz58 = some r) ∧ Aside0 (kq ≤ k1) ∧ Aside0 (Kd.R Kd.string 9 wc w.heap.size (fun k_ => some k_ ≠ ((.slice Ao57 tz31.length co57) : Value).ownBlock ∧ some k_ ≠ ((.slice Ao65 tz39.length co65) : Value).ownBlock ∧ some k_ ≠ ((.slice Ao73 tz47.length co73) : Value).ownBlock ∧ some k_ ≠ ((.slice Ao83 tz55.length co83) : Value).ownBlock) (.slice Ao11 tz2.length co11) tz2) ∧ Aside0 (Kd.R k24 24 wc w.heap.size (fun k_ => some k_ ≠ ((.slice Ao60 tz34.length co60) : Value).ownBlock ∧ some k_ ≠ ((.slice Ao69 tz42.length co69) : Value).ownBlock ∧ some k_ ≠ ((.slice Ao78 tz50.length co78) : Value).ownBlock ∧ some k_ ≠ ((.slice Ao89 tz58.length co89) : Value).ownBlock) (.slice Ao13 tz5.length co13) tz5) ∧ Aside0 (Kd.R Kd.string 9 wc w.heap.size (fun k_ => some k_ ≠ ((.slice Ao11 tz2.length co11) : Value).ownBlock ∧ some k_ ≠ ((.slice Ao65 tz39.length co65) : Value).ownBlock ∧ some k_ ≠ ((.slice Ao73 tz47.length co73) : Value).ownBlock ∧ some k_ ≠ ((.slice Ao83 tz55.length co83) : Value).ownBlock) (.slice Ao57 tz31.length co57) tz31) ∧ Aside0 (Kd.R k24 24 wc w.heap.size (fun k_ => some k_ ≠ ((.slice Ao13 tz5.length co13) : Value).ownBlock ∧ some k_ ≠ ((.slice Ao69 tz42.length co69) : Value).ownBlock ∧ some k_ ≠ ((.slice Ao78 tz50.length co78) : Value).ownBlock ∧ some k_ ≠ ((.slice Ao89 tz58.length co89) : Value).ownBlock) (.slice Ao60 tz34.length co60) tz34) ∧ Aside0 (Kd.R Kd.string 9 wc w.heap.size (fun k_ => some k_ ≠ ((.slice Ao11 tz2.length co11) : Value).ownBlock ∧ some k_ ≠ ((.slice Ao57 tz31.length co57) : Value).ownBlock ∧ some k_ ≠ ((.slice Ao73 tz47.length co73) : Value).ownBlock ∧ some k_ ≠ ((.slice Ao83 tz55.length co83) : Value).ownBlock) (.slice Ao65 tz39.length co65) tz39) ∧ Aside0 (Kd.R k24 24 wc w.heap.size (fun k_ => some k_ ≠ ((.slice Ao13 tz5.length co13) : Value).ownBlock ∧ some k_ ≠ ((.slice Ao60 tz34.length co60) : Value).ownBlock ∧ some k_ ≠ ((.slice Ao78 tz50.length co78) : Value).ownBlock ∧ some k_ ≠ ((.slice Ao89 tz58.length co89) : Value).ownBlock) (.slice Ao69 tz42.length co69) tz42) ∧ Aside0 (Kd.R Kd.string 9 wc w.heap.size (fun k_ => some k_ ≠ ((.slice Ao11 tz2.length co11) : Value).ownBlock ∧ some k_ ≠ ((.slice Ao57 tz31.length co57) : Value).ownBlock ∧ some k_ ≠ ((.slice Ao65 tz39.length co65) : Value).ownBlock ∧ some k_ ≠ ((.slice Ao83 tz55.length co83) : Value).ownBlock) (.slice Ao73 tz47.length co73) tz47) ∧ Aside0 (Kd.R k24 24 wc w.heap.size (fun k_ => some k_ ≠ ((.slice Ao13 tz5.length co13) : Value).ownBlock ∧ some k_ ≠ ((.slice Ao60 tz34.length co60) : Value).ownBlock ∧ some k_ ≠ ((.slice Ao69 tz42.length co69) : Value).ownBlock ∧ some k_ ≠ ((.slice Ao89 tz58.length co89) : Value).ownBlock) (.slice Ao78 tz50.length co78) tz50) ∧ Aside0 (Kd.R Kd.string 9 wc w.heap.size (fun k_ => some k_ ≠ ((.slice Ao11 tz2.length co11) : Value).ownBlock ∧ some k_ ≠ ((.slice Ao57 tz31.length co57) : Value).ownBlock ∧ some k_ ≠ ((.slice Ao65 tz39.length co65) : Value).ownBlock ∧ some k_ ≠ ((.slice Ao73 tz47.length co73) : Value).ownBlock) (.slice Ao83 tz55.length co83) tz55) ∧ Aside0 (Kd.R k24 24 wc w.heap.size (fun k_ => some k_ ≠ ((.slice Ao13 tz5.length co13) : Value).ownBlock ∧ some k_ ≠ ((.slice Ao60 tz34.length co60) : Value).ownBlock ∧ some k_ ≠ ((.slice Ao69 tz42.length co69) : Value).ownBlock ∧ some k_ ≠ ((.slice Ao78 tz50.length co78) : Value).ownBlock) (.slice Ao89 tz58.length co89) tz58) ∧ Aside0 (wc.heap[gbz9]? = some (.cells #[(.slice Ao11 tz2.length co11), (.slice Ao13 tz5.length co13)] 30 (0, 0))) ∧ Aside0 (wc.heap[gbz38]? = some (.cells #[(.slice Ao57 tz31.length co57), (.slice Ao60 tz34.length co60)] 30 (0, 0))) ∧ Aside0 (wc.heap[gbz46]? = some (.cells #[(.slice Ao65 tz39.length co65), (.slice Ao69 tz42.length co69)] 30 (0, 0))) ∧ Aside0 (wc.heap[gbz54]? = some (.cells #[(.slice Ao73 tz47.length co73), (.slice Ao78 tz50.length co78)] 30 (0, 0))) ∧ Aside0 (wc.heap[gbz62]? = some (.cells #[(.slice Ao83 tz55.length co83), (.slice Ao89 tz58.length co89)] 30 (0, 0))) ∧ Aside0 (Below w.heap.size w wc))
 case first =>
  have H := HC52.out
  clear HC52
  by_cases c90 : tz8 = 0
  rotate_left
  ·rw [if_neg c90] at H
   have c90b0 : (tz8 == 0) = false := beq_eq_false_iff_ne.mpr c90
   have c90b1 : (tz8 != 0) = true := bne_iff_ne.mpr c90
   (first | rw [c90b0] | rw [c90b1] | (simp only [i64_w, i32_w]; rw [c90b0]) | skip)
   have H' := am H
   clear H
   go_wp2
   repeat (go_quiet (fail); try go_wp2)
   go_meet
   case rel => exact ⟨_, (true), (by first | rfl | (simp; done) | (simp [*]; done)), H', ⟨by have := HK1.out; first | omega | exact Nat.le_refl _⟩, ⟨by (with_reducible repeat first | apply ra | apply rn | apply rd); exact Kd.R_mono (rf2 (Kd.R_types HO_z10000.out BKz62.out (by decide)) (fun _ hk => hk.2)) (fun _ hk => ⟨hk.1.1.1.1.2, ⟨hk.1.1.1.2, ⟨hk.1.1.2, hk.1.2⟩⟩⟩)⟩, ⟨by (with_reducible repeat first | apply ra | apply rn | apply rd); exact Kd.R_mono (rf2 (Kd.R_types HO_z10001.out BKz62.out (by decide)) (fun _ hk => hk.2)) (fun _ hk => ⟨hk.1.1.1.1.2, ⟨hk.1.1.1.2, ⟨hk.1.1.2, hk.1.2⟩⟩⟩)⟩, ⟨by (with_reducible repeat first | apply ra | apply rn | apply rd); exact Kd.R_mono (rf2 (Kd.R_types HOz33.out BKz62.out (by decide)) (fun _ hk => hk.2)) (fun _ hk => ⟨hk.1.1.1.1.2, ⟨hk.1.1.1.2, ⟨hk.1.1.2, hk.1.2⟩⟩⟩)⟩, ⟨by (with_reducible repeat first | apply ra | apply rn | apply rd); exact Kd.R_mono (rf2 (Kd.R_types HOz36.out BKz62.out (by decide)) (fun _ hk => hk.2)) (fun _ hk => ⟨hk.1.1.1.1.2, ⟨hk.1.1.1.2, ⟨hk.1.1.2, hk.1.2⟩⟩⟩)⟩, ⟨by (with_reducible repeat first | apply ra | apply rn | apply rd); exact Kd.R_mono (rf2 (Kd.R_types HOz41.out BKz62.out (by decide)) (fun _ hk => hk.2)) (fun _ hk => ⟨hk.1.1.1.1.2, ⟨hk.1.1.1.2, ⟨hk.1.1.2, hk.1.2⟩⟩⟩)⟩, ⟨by (with_reducible repeat first | apply ra | apply rn | apply rd); exact Kd.R_mono (rf2 (Kd.R_types HOz44.out BKz62.out (by decide)) (fun _ hk => hk.2)) (fun _ hk => ⟨hk.1.1.1.1.2, ⟨hk.1.1.1.2, ⟨hk.1.1.2, hk.1.2⟩⟩⟩)⟩, ⟨by (with_reducible repeat first | apply ra | apply rn | apply rd); exact Kd.R_mono (rf2 (Kd.R_types HOz49.out BKz62.out (by decide)) (fun _ hk => hk.2)) (fun _ hk => ⟨hk.1.1.1.1.2, ⟨hk.1.1.1.2, ⟨hk.1.1.2, hk.1.2⟩⟩⟩)⟩, ⟨by (with_reducible repeat first | apply ra | apply rn | apply rd); exact Kd.R_mono (rf2 (Kd.R_types HOz52.out BKz62.out (by decide)) (fun _ hk => hk.2)) (fun _ hk => ⟨hk.1.1.1.1.2, ⟨hk.1.1.1.2, ⟨hk.1.1.2, hk.1.2⟩⟩⟩)⟩, ⟨by (with_reducible repeat first | apply ra | apply rn | apply rd); exact Kd.R_mono (rf2 (Kd.R_types HOz57.out BKz62.out (by decide)) (fun _ hk => hk.2)) (fun _ hk => ⟨hk.1.1.1.1.2, ⟨hk.1.1.1.2, ⟨hk.1.1.2, hk.1.2⟩⟩⟩)⟩, ⟨by (with_reducible repeat first | apply ra | apply rn | apply rd); exact Kd.R_mono (rf2 (Kd.R_types HOz60.out BKz62.out (by decide)) (fun _ hk => hk.2)) (fun _ hk => ⟨hk.1.1.1.1.2, ⟨hk.1.1.1.2, ⟨hk.1.1.2, hk.1.2⟩⟩⟩)⟩, ⟨by (with_reducible repeat (first | refine blk_drewN ?_ _ | refine blk_drew ?_ | refine blk_alloc ?_ _)); refine blk_far ?_ NBz9_z62.out _; refine blk_far ?_ NBz9_z62.out _; (with_reducible repeat (first | refine blk_drewN ?_ _ | refine blk_drew ?_ | refine blk_alloc ?_ _)); exact BKz9.out⟩, ⟨by (with_reducible repeat (first | refine blk_drewN ?_ _ | refine blk_drew ?_ | refine blk_alloc ?_ _)); refine blk_far ?_ NBz38_z62.out _; refine blk_far ?_ NBz38_z62.out _; (with_reducible repeat (first | refine blk_drewN ?_ _ | refine blk_drew ?_ | refine blk_alloc ?_ _)); exact BKz38.out⟩, ⟨by (with_reducible repeat (first | refine blk_drewN ?_ _ | refine blk_drew ?_ | refine blk_alloc ?_ _)); refine blk_far ?_ NBz46_z62.out _; refine blk_far ?_ NBz46_z62.out _; (with_reducible repeat (first | refine blk_drewN ?_ _ | refine blk_drew ?_ | refine blk_alloc ?_ _)); exact BKz46.out⟩, ⟨by (with_reducible repeat (first | refine blk_drewN ?_ _ | refine blk_drew ?_ | refine blk_alloc ?_ _)); refine blk_far ?_ NBz54_z62.out _; refine blk_far ?_ NBz54_z62.out _; (with_reducible repeat (first | refine blk_drewN ?_ _ | refine blk_drew ?_ | refine blk_alloc ?_ _)); exact BKz54.out⟩, ⟨by (with_reducible repeat (first | refine blk_drewN ?_ _ | refine blk_drew ?_ | refine blk_alloc ?_ _)); apply bp2; (with_reducible repeat (first | refine blk_drewN ?_ _ | refine blk_drew ?_ | refine blk_alloc ?_ _)); exact BKz62.out⟩, ⟨by repeat first | (with_reducible first | exact HB.out | apply ba | apply bn | apply bd | refine bs (by assumption) ?_) | exact HB.out⟩⟩
  rw [if_pos c90] at H
  have c90b0 : (tz8 == 0) = true := beq_iff_eq.mpr c90
  have c90b1 : (tz8 != 0) = false := bne_eq_false_iff_eq.mpr c90
  clear c90
  (first | rw [c90b0] | rw [c90b1] | (simp only [i64_w, i32_w]; rw [c90b0]) | skip)
  by_cases c91 : tz37 = 0
  rotate_left
  ·rw [if_neg c91] at H
   have c91b0 : (tz37 == 0) = false := beq_eq_false_iff_ne.mpr c91
   have c91b1 : (tz37 != 0) = true := bne_iff_ne.mpr c91
   have H' := am H
   clear H
   go_wp2
   repeat (go_quiet (fail); try go_wp2)
   go_meet
   case rel => exact ⟨_, (true), (by first | rfl | (simp; done) | (simp [*]; done)), H', ⟨by have := HK1.out; first | omega | exact Nat.le_refl _⟩, ⟨by (with_reducible repeat first | apply ra | apply rn | apply rd); exact Kd.R_mono (rf2 (Kd.R_types HO_z10000.out BKz62.out (by decide)) (fun _ hk => hk.2)) (fun _ hk => ⟨hk.1.1.1.1.2, ⟨hk.1.1.1.2, ⟨hk.1.1.2, hk.1.2⟩⟩⟩)⟩, ⟨by (with_reducible repeat first | apply ra | apply rn | apply rd); exact Kd.R_mono (rf2 (Kd.R_types HO_z10001.out BKz62.out (by decide)) (fun _ hk => hk.2)) (fun _ hk => ⟨hk.1.1.1.1.2, ⟨hk.1.1.1.2, ⟨hk.1.1.2, hk.1.2⟩⟩⟩)⟩, ⟨by (with_reducible repeat first | apply ra | apply rn | apply rd); exact Kd.R_mono (rf2 (Kd.R_types HOz33.out BKz62.out (by decide)) (fun _ hk => hk.2)) (fun _ hk => ⟨hk.1.1.1.1.2, ⟨hk.1.1.1.2, ⟨hk.1.1.2, hk.1.2⟩⟩⟩)⟩, ⟨by (with_reducible repeat first | apply ra | apply rn | apply rd); exact Kd.R_mono (rf2 (Kd.R_types HOz36.out BKz62.out (by decide)) (fun _ hk => hk.2)) (fun _ hk => ⟨hk.1.1.1.1.2, ⟨hk.1.1.1.2, ⟨hk.1.1.2, hk.1.2⟩⟩⟩)⟩, ⟨by (with_reducible repeat first | apply ra | apply rn | apply rd); exact Kd.R_mono (rf2 (Kd.R_types HOz41.out BKz62.out (by decide)) (fun _ hk => hk.2)) (fun _ hk => ⟨hk.1.1.1.1.2, ⟨hk.1.1.1.2, ⟨hk.1.1.2, hk.1.2⟩⟩⟩)⟩, ⟨by (with_reducible repeat first | apply ra | apply rn | apply rd); exact Kd.R_mono (rf2 (Kd.R_types HOz44.out BKz62.out (by decide)) (fun _ hk => hk.2)) (fun _ hk => ⟨hk.1.1.1.1.2, ⟨hk.1.1.1.2, ⟨hk.1.1.2, hk.1.2⟩⟩⟩)⟩, ⟨by (with_reducible repeat first | apply ra | apply rn | apply rd); exact Kd.R_mono (rf2 (Kd.R_types HOz49.out BKz62.out (by decide)) (fun _ hk => hk.2)) (fun _ hk => ⟨hk.1.1.1.1.2, ⟨hk.1.1.1.2, ⟨hk.1.1.2, hk.1.2⟩⟩⟩)⟩, ⟨by (with_reducible repeat first | apply ra | apply rn | apply rd); exact Kd.R_mono (rf2 (Kd.R_types HOz52.out BKz62.out (by decide)) (fun _ hk => hk.2)) (fun _ hk => ⟨hk.1.1.1.1.2, ⟨hk.1.1.1.2, ⟨hk.1.1.2, hk.1.2⟩⟩⟩)⟩, ⟨by (with_reducible repeat first | apply ra | apply rn | apply rd); exact Kd.R_mono (rf2 (Kd.R_types HOz57.out BKz62.out (by decide)) (fun _ hk => hk.2)) (fun _ hk => ⟨hk.1.1.1.1.2, ⟨hk.1.1.1.2, ⟨hk.1.1.2, hk.1.2⟩⟩⟩)⟩, ⟨by (with_reducible repeat first | apply ra | apply rn | apply rd); exact Kd.R_mono (rf2 (Kd.R_types HOz60.out BKz62.out (by decide)) (fun _ hk => hk.2)) (fun _ hk => ⟨hk.1.1.1.1.2, ⟨hk.1.1.1.2, ⟨hk.1.1.2, hk.1.2⟩⟩⟩)⟩, ⟨by (with_reducible repeat (first | refine blk_drewN ?_ _ | refine blk_drew ?_ | refine blk_alloc ?_ _)); refine blk_far ?_ NBz9_z62.out _; refine blk_far ?_ NBz9_z62.out _; (with_reducible repeat (first | refine blk_drewN ?_ _ | refine blk_drew ?_ | refine blk_alloc ?_ _)); exact BKz9.out⟩, ⟨by (with_reducible repeat (first | refine blk_drewN ?_ _ | refine blk_drew ?_ | refine blk_alloc ?_ _)); refine blk_far ?_ NBz38_z62.out _; refine blk_far ?_ NBz38_z62.out _; (with_reducible repeat (first | refine blk_drewN ?_ _ | refine blk_drew ?_ | refine blk_alloc ?_ _)); exact BKz38.out⟩, ⟨by (with_reducible repeat (first | refine blk_drewN ?_ _ | refine blk_drew ?_ | refine blk_alloc ?_ _)); refine blk_far ?_ NBz46_z62.out _; refine blk_far ?_ NBz46_z62.out _; (with_reducible repeat (first | refine blk_drewN ?_ _ | refine blk_drew ?_ | refine blk_alloc ?_ _)); exact BKz46.out⟩, ⟨by (with_reducible repeat (first | refine blk_drewN ?_ _ | refine blk_drew ?_ | refine blk_alloc ?_ _)); refine blk_far ?_ NBz54_z62.out _; refine blk_far ?_ NBz54_z62.out _; (with_reducible repeat (first | refine blk_drewN ?_ _ | refine blk_drew ?_ | refine blk_alloc ?_ _)); exact BKz54.out⟩, ⟨by (with_reducible repeat (first | refine blk_drewN ?_ _ | refine blk_drew ?_ | refine blk_alloc ?_ _)); apply bp2; (with_reducible repeat (first | refine blk_drewN ?_ _ | refine blk_drew ?_ | refine blk_alloc ?_ _)); exact BKz62.out⟩, ⟨by repeat first | (with_reducible first | exact HB.out | apply ba | apply bn | apply bd | refine bs (by assumption) ?_) | exact HB.out⟩⟩
  rw [if_pos c91] at H
  have c91b0 : (tz37 == 0) = true := beq_iff_eq.mpr c91
  have c91b1 : (tz37 != 0) = false := bne_eq_false_iff_eq.mpr c91
  clear c91
  by_cases c92 : tz45 = 0
  rotate_left
  ·rw [if_neg c92] at H
   have c92b0 : (tz45 == 0) = false := beq_eq_false_iff_ne.mpr c92
   have c92b1 : (tz45 != 0) = true := bne_iff_ne.mpr c92
   have H' := am H
   clear H
   go_wp2
   repeat (go_quiet (fail); try go_wp2)
   go_meet
   case rel => exact ⟨_, (true), (by first | rfl | (simp; done) | (simp [*]; done)), H', ⟨by have := HK1.out; first | omega | exact Nat.le_refl _⟩, ⟨by (with_reducible repeat first | apply ra | apply rn | apply rd); exact Kd.R_mono (rf2 (Kd.R_types HO_z10000.out BKz62.out (by decide)) (fun _ hk => hk.2)) (fun _ hk => ⟨hk.1.1.1.1.2, ⟨hk.1.1.1.2, ⟨hk.1.1.2, hk.1.2⟩⟩⟩)⟩, ⟨by (with_reducible repeat first | apply ra | apply rn | apply rd); exact Kd.R_mono (rf2 (Kd.R_types HO_z10001.out BKz62.out (by decide)) (fun _ hk => hk.2)) (fun _ hk => ⟨hk.1.1.1.1.2, ⟨hk.1.1.1.2, ⟨hk.1.1.2, hk.1.2⟩⟩⟩)⟩, ⟨by (with_reducible repeat first | apply ra | apply rn | apply rd); exact Kd.R_mono (rf2 (Kd.R_types HOz33.out BKz62.out (by decide)) (fun _ hk => hk.2)) (fun _ hk => ⟨hk.1.1.1.1.2, ⟨hk.1.1.1.2, ⟨hk.1.1.2, hk.1.2⟩⟩⟩)⟩, ⟨by (with_reducible repeat first | apply ra | apply rn | apply rd); exact Kd.R_mono (rf2 (Kd.R_types HOz36.out BKz62.out (by decide)) (fun _ hk => hk.2)) (fun _ hk => ⟨hk.1.1.1.1.2, ⟨hk.1.1.1.2, ⟨hk.1.1.2, hk.1.2⟩⟩⟩)⟩, ⟨by (with_reducible repeat first | apply ra | apply rn | apply rd); exact Kd.R_mono (rf2 (Kd.R_types HOz41.out BKz62.out (by decide)) (fun _ hk => hk.2)) (fun _ hk => ⟨hk.1.1.1.1.2, ⟨hk.1.1.1.2, ⟨hk.1.1.2, hk.1.2⟩⟩⟩)⟩, ⟨by (with_reducible repeat first | apply ra | apply rn | apply rd); exact Kd.R_mono (rf2 (Kd.R_types HOz44.out BKz62.out (by decide)) (fun _ hk => hk.2)) (fun _ hk => ⟨hk.1.1.1.1.2, ⟨hk.1.1.1.2, ⟨hk.1.1.2, hk.1.2⟩⟩⟩)⟩, ⟨by (with_reducible repeat first | apply ra | apply rn | apply rd); exact Kd.R_mono (rf2 (Kd.R_types HOz49.out BKz62.out (by decide)) (fun _ hk => hk.2)) (fun _ hk => ⟨hk.1.1.1.1.2, ⟨hk.1.1.1.2, ⟨hk.1.1.2, hk.1.2⟩⟩⟩)⟩, ⟨by (with_reducible repeat first | apply ra | apply rn | apply rd); exact Kd.R_mono (rf2 (Kd.R_types HOz52.out BKz62.out (by decide)) (fun _ hk => hk.2)) (fun _ hk => ⟨hk.1.1.1.1.2, ⟨hk.1.1.1.2, ⟨hk.1.1.2, hk.1.2⟩⟩⟩)⟩, ⟨by (with_reducible repeat first | apply ra | apply rn | apply rd); exact Kd.R_mono (rf2 (Kd.R_types HOz57.out BKz62.out (by decide)) (fun _ hk => hk.2)) (fun _ hk => ⟨hk.1.1.1.1.2, ⟨hk.1.1.1.2, ⟨hk.1.1.2, hk.1.2⟩⟩⟩)⟩, ⟨by (with_reducible repeat first | apply ra | apply rn | apply rd); exact Kd.R_mono (rf2 (Kd.R_types HOz60.out BKz62.out (by decide)) (fun _ hk => hk.2)) (fun _ hk => ⟨hk.1.1.1.1.2, ⟨hk.1.1.1.2, ⟨hk.1.1.2, hk.1.2⟩⟩⟩)⟩, ⟨by (with_reducible repeat (first | refine blk_drewN ?_ _ | refine blk_drew ?_ | refine blk_alloc ?_ _)); refine blk_far ?_ NBz9_z62.out _; refine blk_far ?_ NBz9_z62.out _; (with_reducible repeat (first | refine blk_drewN ?_ _ | refine blk_drew ?_ | refine blk_alloc ?_ _)); exact BKz9.out⟩, ⟨by (with_reducible repeat (first | refine blk_drewN ?_ _ | refine blk_drew ?_ | refine blk_alloc ?_ _)); refine blk_far ?_ NBz38_z62.out _; refine blk_far ?_ NBz38_z62.out _; (with_reducible repeat (first | refine blk_drewN ?_ _ | refine blk_drew ?_ | refine blk_alloc ?_ _)); exact BKz38.out⟩, ⟨by (with_reducible repeat (first | refine blk_drewN ?_ _ | refine blk_drew ?_ | refine blk_alloc ?_ _)); refine blk_far ?_ NBz46_z62.out _; refine blk_far ?_ NBz46_z62.out _; (with_reducible repeat (first | refine blk_drewN ?_ _ | refine blk_drew ?_ | refine blk_alloc ?_ _)); exact BKz46.out⟩, ⟨by (with_reducible repeat (first | refine blk_drewN ?_ _ | refine blk_drew ?_ | refine blk_alloc ?_ _)); refine blk_far ?_ NBz54_z62.out _; refine blk_far ?_ NBz54_z62.out _; (with_reducible repeat (first | refine blk_drewN ?_ _ | refine blk_drew ?_ | refine blk_alloc ?_ _)); exact BKz54.out⟩, ⟨by (with_reducible repeat (first | refine blk_drewN ?_ _ | refine blk_drew ?_ | refine blk_alloc ?_ _)); apply bp2; (with_reducible repeat (first | refine blk_drewN ?_ _ | refine blk_drew ?_ | refine blk_alloc ?_ _)); exact BKz62.out⟩, ⟨by repeat first | (with_reducible first | exact HB.out | apply ba | apply bn | apply bd | refine bs (by assumption) ?_) | exact HB.out⟩⟩
  rw [if_pos c92] at H
  have c92b0 : (tz45 == 0) = true := beq_iff_eq.mpr c92
  have c92b1 : (tz45 != 0) = false := bne_eq_false_iff_eq.mpr c92
  clear c92
  by_cases c93 : tz53 = 0
  rotate_left
  ·rw [if_neg c93] at H
   have c93b0 : (tz53 == 0) = false := beq_eq_false_iff_ne.mpr c93
   have c93b1 : (tz53 != 0) = true := bne_iff_ne.mpr c93
   have H' := am H
   clear H
   go_wp2
   repeat (go_quiet (fail); try go_wp2)
   go_meet
   case rel => exact ⟨_, (true), (by first | rfl | (simp; done) | (simp [*]; done)), H', ⟨by have := HK1.out; first | omega | exact Nat.le_refl _⟩, ⟨by (with_reducible repeat first | apply ra | apply rn | apply rd); exact Kd.R_mono (rf2 (Kd.R_types HO_z10000.out BKz62.out (by decide)) (fun _ hk => hk.2)) (fun _ hk => ⟨hk.1.1.1.1.2, ⟨hk.1.1.1.2, ⟨hk.1.1.2, hk.1.2⟩⟩⟩)⟩, ⟨by (with_reducible repeat first | apply ra | apply rn | apply rd); exact Kd.R_mono (rf2 (Kd.R_types HO_z10001.out BKz62.out (by decide)) (fun _ hk => hk.2)) (fun _ hk => ⟨hk.1.1.1.1.2, ⟨hk.1.1.1.2, ⟨hk.1.1.2, hk.1.2⟩⟩⟩)⟩, ⟨by (with_reducible repeat first | apply ra | apply rn | apply rd); exact Kd.R_mono (rf2 (Kd.R_types HOz33.out BKz62.out (by decide)) (fun _ hk => hk.2)) (fun _ hk => ⟨hk.1.1.1.1.2, ⟨hk.1.1.1.2, ⟨hk.1.1.2, hk.1.2⟩⟩⟩)⟩, ⟨by (with_reducible repeat first | apply ra | apply rn | apply rd); exact Kd.R_mono (rf2 (Kd.R_types HOz36.out BKz62.out (by decide)) (fun _ hk => hk.2)) (fun _ hk => ⟨hk.1.1.1.1.2, ⟨hk.1.1.1.2, ⟨hk.1.1.2, hk.1.2⟩⟩⟩)⟩, ⟨by (with_reducible repeat first | apply ra | apply rn | apply rd); exact Kd.R_mono (rf2 (Kd.R_types HOz41.out BKz62.out (by decide)) (fun _ hk => hk.2)) (fun _ hk => ⟨hk.1.1.1.1.2, ⟨hk.1.1.1.2, ⟨hk.1.1.2, hk.1.2⟩⟩⟩)⟩, ⟨by (with_reducible repeat first | apply ra | apply rn | apply rd); exact Kd.R_mono (rf2 (Kd.R_types HOz44.out BKz62.out (by decide)) (fun _ hk => hk.2)) (fun _ hk => ⟨hk.1.1.1.1.2, ⟨hk.1.1.1.2, ⟨hk.1.1.2, hk.1.2⟩⟩⟩)⟩, ⟨by (with_reducible repeat first | apply ra | apply rn | apply rd); exact Kd.R_mono (rf2 (Kd.R_types HOz49.out BKz62.out (by decide)) (fun _ hk => hk.2)) (fun _ hk => ⟨hk.1.1.1.1.2, ⟨hk.1.1.1.2, ⟨hk.1.1.2, hk.1.2⟩⟩⟩)⟩, ⟨by (with_reducible repeat first | apply ra | apply rn | apply rd); exact Kd.R_mono (rf2 (Kd.R_types HOz52.out BKz62.out (by decide)) (fun _ hk => hk.2)) (fun _ hk => ⟨hk.1.1.1.1.2, ⟨hk.1.1.1.2, ⟨hk.1.1.2, hk.1.2⟩⟩⟩)⟩, ⟨by (with_reducible repeat first | apply ra | apply rn | apply rd); exact Kd.R_mono (rf2 (Kd.R_types HOz57.out BKz62.out (by decide)) (fun _ hk => hk.2)) (fun _ hk => ⟨hk.1.1.1.1.2, ⟨hk.1.1.1.2, ⟨hk.1.1.2, hk.1.2⟩⟩⟩)⟩, ⟨by (with_reducible repeat first | apply ra | apply rn | apply rd); exact Kd.R_mono (rf2 (Kd.R_types HOz60.out BKz62.out (by decide)) (fun _ hk => hk.2)) (fun _ hk => ⟨hk.1.1.1.1.2, ⟨hk.1.1.1.2, ⟨hk.1.1.2, hk.1.2⟩⟩⟩)⟩, ⟨by (with_reducible repeat (first | refine blk_drewN ?_ _ | refine blk_drew ?_ | refine blk_alloc ?_ _)); refine blk_far ?_ NBz9_z62.out _; refine blk_far ?_ NBz9_z62.out _; (with_reducible repeat (first | refine blk_drewN ?_ _ | refine blk_drew ?_ | refine blk_alloc ?_ _)); exact BKz9.out⟩, ⟨by (with_reducible repeat (first | refine blk_drewN ?_ _ | refine blk_drew ?_ | refine blk_alloc ?_ _)); refine blk_far ?_ NBz38_z62.out _; refine blk_far ?_ NBz38_z62.out _; (with_reducible repeat (first | refine blk_drewN ?_ _ | refine blk_drew ?_ | refine blk_alloc ?_ _)); exact BKz38.out⟩, ⟨by (with_reducible repeat (first | refine blk_drewN ?_ _ | refine blk_drew ?_ | refine blk_alloc ?_ _)); refine blk_far ?_ NBz46_z62.out _; refine blk_far ?_ NBz46_z62.out _; (with_reducible repeat (first | refine blk_drewN ?_ _ | refine blk_drew ?_ | refine blk_alloc ?_ _)); exact BKz46.out⟩, ⟨by (with_reducible repeat (first | refine blk_drewN ?_ _ | refine blk_drew ?_ | refine blk_alloc ?_ _)); refine blk_far ?_ NBz54_z62.out _; refine blk_far ?_ NBz54_z62.out _; (with_reducible repeat (first | refine blk_drewN ?_ _ | refine blk_drew ?_ | refine blk_alloc ?_ _)); exact BKz54.out⟩, ⟨by (with_reducible repeat (first | refine blk_drewN ?_ _ | refine blk_drew ?_ | refine blk_alloc ?_ _)); apply bp2; (with_reducible repeat (first | refine blk_drewN ?_ _ | refine blk_drew ?_ | refine blk_alloc ?_ _)); exact BKz62.out⟩, ⟨by repeat first | (with_reducible first | exact HB.out | apply ba | apply bn | apply bd | refine bs (by assumption) ?_) | exact HB.out⟩⟩
  rw [if_pos c93] at H
  have c93b0 : (tz53 == 0) = true := beq_iff_eq.mpr c93
  have c93b1 : (tz53 != 0) = false := bne_eq_false_iff_eq.mpr c93
  clear c93
  by_cases c94 : tz61 = 0
  rotate_left
  ·rw [if_neg c94] at H
   have c94b0 : (tz61 == 0) = false := beq_eq_false_iff_ne.mpr c94
   have c94b1 : (tz61 != 0) = true := bne_iff_ne.mpr c94
   have H' := am H
   clear H
   go_wp2
   repeat (go_quiet (fail); try go_wp2)
   go_meet
   case rel => exact ⟨_, (true), (by first | rfl | (simp; done) | (simp [*]; done)), H', ⟨by have := HK1.out; first | omega | exact Nat.le_refl _⟩, ⟨by (with_reducible repeat first | apply ra | apply rn | apply rd); exact Kd.R_mono (rf2 (Kd.R_types HO_z10000.out BKz62.out (by decide)) (fun _ hk => hk.2)) (fun _ hk => ⟨hk.1.1.1.1.2, ⟨hk.1.1.1.2, ⟨hk.1.1.2, hk.1.2⟩⟩⟩)⟩, ⟨by (with_reducible repeat first | apply ra | apply rn | apply rd); exact Kd.R_mono (rf2 (Kd.R_types HO_z10001.out BKz62.out (by decide)) (fun _ hk => hk.2)) (fun _ hk => ⟨hk.1.1.1.1.2, ⟨hk.1.1.1.2, ⟨hk.1.1.2, hk.1.2⟩⟩⟩)⟩, ⟨by (with_reducible repeat first | apply ra | apply rn | apply rd); exact Kd.R_mono (rf2 (Kd.R_types HOz33.out BKz62.out (by decide)) (fun _ hk => hk.2)) (fun _ hk => ⟨hk.1.1.1.1.2, ⟨hk.1.1.1.2, ⟨hk.1.1.2, hk.1.2⟩⟩⟩)⟩, ⟨by (with_reducible repeat first | apply ra | apply rn | apply rd); exact Kd.R_mono (rf2 (Kd.R_types HOz36.out BKz62.out (by decide)) (fun _ hk => hk.2)) (fun _ hk => ⟨hk.1.1.1.1.2, ⟨hk.1.1.1.2, ⟨hk.1.1.2, hk.1.2⟩⟩⟩)⟩, ⟨by (with_reducible repeat first | apply ra | apply rn | apply rd); exact Kd.R_mono (rf2 (Kd.R_types HOz41.out BKz62.out (by decide)) (fun _ hk => hk.2)) (fun _ hk => ⟨hk.1.1.1.1.2, ⟨hk.1.1.1.2, ⟨hk.1.1.2, hk.1.2⟩⟩⟩)⟩, ⟨by (with_reducible repeat first | apply ra | apply rn | apply rd); exact Kd.R_mono (rf2 (Kd.R_types HOz44.out BKz62.out (by decide)) (fun _ hk => hk.2)) (fun _ hk => ⟨hk.1.1.1.1.2, ⟨hk.1.1.1.2, ⟨hk.1.1.2, hk.1.2⟩⟩⟩)⟩, ⟨by (with_reducible repeat first | apply ra | apply rn | apply rd); exact Kd.R_mono (rf2 (Kd.R_types HOz49.out BKz62.out (by decide)) (fun _ hk => hk.2)) (fun _ hk => ⟨hk.1.1.1.1.2, ⟨hk.1.1.1.2, ⟨hk.1.1.2, hk.1.2⟩⟩⟩)⟩, ⟨by (with_reducible repeat first | apply ra | apply rn | apply rd); exact Kd.R_mono (rf2 (Kd.R_types HOz52.out BKz62.out (by decide)) (fun _ hk => hk.2)) (fun _ hk => ⟨hk.1.1.1.1.2, ⟨hk.1.1.1.2, ⟨hk.1.1.2, hk.1.2⟩⟩⟩)⟩, ⟨by (with_reducible repeat first | apply ra | apply rn | apply rd); exact Kd.R_mono (rf2 (Kd.R_types HOz57.out BKz62.out (by decide)) (fun _ hk => hk.2)) (fun _ hk => ⟨hk.1.1.1.1.2, ⟨hk.1.1.1.2, ⟨hk.1.1.2, hk.1.2⟩⟩⟩)⟩, ⟨by (with_reducible repeat first | apply ra | apply rn | apply rd); exact Kd.R_mono (rf2 (Kd.R_types HOz60.out BKz62.out (by decide)) (fun _ hk => hk.2)) (fun _ hk => ⟨hk.1.1.1.1.2, ⟨hk.1.1.1.2, ⟨hk.1.1.2, hk.1.2⟩⟩⟩)⟩, ⟨by (with_reducible repeat (first | refine blk_drewN ?_ _ | refine blk_drew ?_ | refine blk_alloc ?_ _)); refine blk_far ?_ NBz9_z62.out _; refine blk_far ?_ NBz9_z62.out _; (with_reducible repeat (first | refine blk_drewN ?_ _ | refine blk_drew ?_ | refine blk_alloc ?_ _)); exact BKz9.out⟩, ⟨by (with_reducible repeat (first | refine blk_drewN ?_ _ | refine blk_drew ?_ | refine blk_alloc ?_ _)); refine blk_far ?_ NBz38_z62.out _; refine blk_far ?_ NBz38_z62.out _; (with_reducible repeat (first | refine blk_drewN ?_ _ | refine blk_drew ?_ | refine blk_alloc ?_ _)); exact BKz38.out⟩, ⟨by (with_reducible repeat (first | refine blk_drewN ?_ _ | refine blk_drew ?_ | refine blk_alloc ?_ _)); refine blk_far ?_ NBz46_z62.out _; refine blk_far ?_ NBz46_z62.out _; (with_reducible repeat (first | refine blk_drewN ?_ _ | refine blk_drew ?_ | refine blk_alloc ?_ _)); exact BKz46.out⟩, ⟨by (with_reducible repeat (first | refine blk_drewN ?_ _ | refine blk_drew ?_ | refine blk_alloc ?_ _)); refine blk_far ?_ NBz54_z62.out _; refine blk_far ?_ NBz54_z62.out _; (with_reducible repeat (first | refine blk_drewN ?_ _ | refine blk_drew ?_ | refine blk_alloc ?_ _)); exact BKz54.out⟩, ⟨by (with_reducible repeat (first | refine blk_drewN ?_ _ | refine blk_drew ?_ | refine blk_alloc ?_ _)); apply bp2; (with_reducible repeat (first | refine blk_drewN ?_ _ | refine blk_drew ?_ | refine blk_alloc ?_ _)); exact BKz62.out⟩, ⟨by repeat first | (with_reducible first | exact HB.out | apply ba | apply bn | apply bd | refine bs (by assumption) ?_) | exact HB.out⟩⟩
  rw [if_pos c94] at H
  have c94b0 : (tz61 == 0) = true := beq_iff_eq.mpr c94
  have c94b1 : (tz61 != 0) = false := bne_eq_false_iff_eq.mpr c94
  clear c94
  by_cases c95 : (tz47.length : Int) = 6
  rotate_left
  ·rw [if_neg c95] at H
   have c95b0 : ((tz47.length : Int) == 6) = false := beq_eq_false_iff_ne.mpr c95
   have c95b1 : ((tz47.length : Int) != 6) = true := bne_iff_ne.mpr c95
   have H' := am H
   clear H
   have hnb105 := NBz54_z9.out
   have hnc105 := NBz9_z54.out
   have hnb106 := NBz54_z38.out
   have hnc106 := NBz38_z54.out
   have hnb107 := NBz54_z46.out
   have hnc107 := NBz46_z54.out
   have hnb108 := NBz54_z62.out
   have hnc108 := NBz62_z54.out
   obtain ⟨hcz109_0, hcz109_1⟩ := bc2 BKz54
   obtain ⟨hfz109_0, hfz109_1⟩ := bf2 BKz54
   go_wp2
   repeat (go_quiet (fail); try go_wp2)
   go_meet
   case rel => exact ⟨_, (true), (by first | rfl | (simp; done) | (simp [*]; done)), H', ⟨by have := HK1.out; first | omega | exact Nat.le_refl _⟩, ⟨by (with_reducible repeat first | apply ra | apply rn | apply rd); exact Kd.R_mono (rf2 (Kd.R_types HO_z10000.out BKz62.out (by decide)) (fun _ hk => hk.2)) (fun _ hk => ⟨hk.1.1.1.1.2, ⟨hk.1.1.1.2, ⟨hk.1.1.2, hk.1.2⟩⟩⟩)⟩, ⟨by (with_reducible repeat first | apply ra | apply rn | apply rd); exact Kd.R_mono (rf2 (Kd.R_types HO_z10001.out BKz62.out (by decide)) (fun _ hk => hk.2)) (fun _ hk => ⟨hk.1.1.1.1.2, ⟨hk.1.1.1.2, ⟨hk.1.1.2, hk.1.2⟩⟩⟩)⟩, ⟨by (with_reducible repeat first | apply ra | apply rn | apply rd); exact Kd.R_mono (rf2 (Kd.R_types HOz33.out BKz62.out (by decide)) (fun _ hk => hk.2)) (fun _ hk => ⟨hk.1.1.1.1.2, ⟨hk.1.1.1.2, ⟨hk.1.1.2, hk.1.2⟩⟩⟩)⟩, ⟨by (with_reducible repeat first | apply ra | apply rn | apply rd); exact Kd.R_mono (rf2 (Kd.R_types HOz36.out BKz62.out (by decide)) (fun _ hk => hk.2)) (fun _ hk => ⟨hk.1.1.1.1.2, ⟨hk.1.1.1.2, ⟨hk.1.1.2, hk.1.2⟩⟩⟩)⟩, ⟨by (with_reducible repeat first | apply ra | apply rn | apply rd); exact Kd.R_mono (rf2 (Kd.R_types HOz41.out BKz62.out (by decide)) (fun _ hk => hk.2)) (fun _ hk => ⟨hk.1.1.1.1.2, ⟨hk.1.1.1.2, ⟨hk.1.1.2, hk.1.2⟩⟩⟩)⟩, ⟨by (with_reducible repeat first | apply ra | apply rn | apply rd); exact Kd.R_mono (rf2 (Kd.R_types HOz44.out BKz62.out (by decide)) (fun _ hk => hk.2)) (fun _ hk => ⟨hk.1.1.1.1.2, ⟨hk.1.1.1.2, ⟨hk.1.1.2, hk.1.2⟩⟩⟩)⟩, ⟨by (with_reducible repeat first | apply ra | apply rn | apply rd); exact Kd.R_mono (rf2 (Kd.R_types HOz49.out BKz62.out (by decide)) (fun _ hk => hk.2)) (fun _ hk => ⟨hk.1.1.1.1.2, ⟨hk.1.1.1.2, ⟨hk.1.1.2, hk.1.2⟩⟩⟩)⟩, ⟨by (with_reducible repeat first | apply ra | apply rn | apply rd); exact Kd.R_mono (rf2 (Kd.R_types HOz52.out BKz62.out (by decide)) (fun _ hk => hk.2)) (fun _ hk => ⟨hk.1.1.1.1.2, ⟨hk.1.1.1.2, ⟨hk.1.1.2, hk.1.2⟩⟩⟩)⟩, ⟨by (with_reducible repeat first | apply ra | apply rn | apply rd); exact Kd.R_mono (rf2 (Kd.R_types HOz57.out BKz62.out (by decide)) (fun _ hk => hk.2)) (fun _ hk => ⟨hk.1.1.1.1.2, ⟨hk.1.1.1.2, ⟨hk.1.1.2, hk.1.2⟩⟩⟩)⟩, ⟨by (with_reducible repeat first | apply ra | apply rn | apply rd); exact Kd.R_mono (rf2 (Kd.R_types HOz60.out BKz62.out (by decide)) (fun _ hk => hk.2)) (fun _ hk => ⟨hk.1.1.1.1.2, ⟨hk.1.1.1.2, ⟨hk.1.1.2, hk.1.2⟩⟩⟩)⟩, ⟨by (with_reducible repeat (first | refine blk_drewN ?_ _ | refine blk_drew ?_ | refine blk_alloc ?_ _)); refine blk_far ?_ NBz9_z62.out _; refine blk_far ?_ NBz9_z62.out _; (with_reducible repeat (first | refine blk_drewN ?_ _ | refine blk_drew ?_ | refine blk_alloc ?_ _)); exact BKz9.out⟩, ⟨by (with_reducible repeat (first | refine blk_drewN ?_ _ | refine blk_drew ?_ | refine blk_alloc ?_ _)); refine blk_far ?_ NBz38_z62.out _; refine blk_far ?_ NBz38_z62.out _; (with_reducible repeat (first | refine blk_drewN ?_ _ | refine blk_drew ?_ | refine blk_alloc ?_ _)); exact BKz38.out⟩, ⟨by (with_reducible repeat (first | refine blk_drewN ?_ _ | refine blk_drew ?_ | refine blk_alloc ?_ _)); refine blk_far ?_ NBz46_z62.out _; refine blk_far ?_ NBz46_z62.out _; (with_reducible repeat (first | refine blk_drewN ?_ _ | refine blk_drew ?_ | refine blk_alloc ?_ _)); exact BKz46.out⟩, ⟨by (with_reducible repeat (first | refine blk_drewN ?_ _ | refine blk_drew ?_ | refine blk_alloc ?_ _)); refine blk_far ?_ NBz54_z62.out _; refine blk_far ?_ NBz54_z62.out _; (with_reducible repeat (first | refine blk_drewN ?_ _ | refine blk_drew ?_ | refine blk_alloc ?_ _)); exact BKz54.out⟩, ⟨by (with_reducible repeat (first | refine blk_drewN ?_ _ | refine blk_drew ?_ | refine blk_alloc ?_ _)); apply bp2; (with_reducible repeat (first | refine blk_drewN ?_ _ | refine blk_drew ?_ | refine blk_alloc ?_ _)); exact BKz62.out⟩, ⟨by repeat first | (with_reducible first | exact HB.out | apply ba | apply bn | apply bd | refine bs (by assumption) ?_) | exact HB.out⟩⟩
  rw [if_pos c95] at H
  have c95b0 : ((tz47.length : Int) == 6) = true := beq_iff_eq.mpr c95
  have c95b1 : ((tz47.length : Int) != 6) = false := bne_eq_false_iff_eq.mpr c95
  clear c95
  have H' := am H
  clear H
  have hnb96 := NBz54_z9.out
  have hnc96 := NBz9_z54.out
  have hnb97 := NBz54_z38.out
  have hnc97 := NBz38_z54.out
  have hnb98 := NBz54_z46.out
  have hnc98 := NBz46_z54.out
  have hnb99 := NBz54_z62.out
  have hnc99 := NBz62_z54.out
  obtain ⟨hcz100_0, hcz100_1⟩ := bc2 BKz54
  obtain ⟨hfz100_0, hfz100_1⟩ := bf2 BKz54
  have hnb101 := NBz62_z9.out
  have hnc101 := NBz9_z62.out
  have hnb102 := NBz62_z38.out
  have hnc102 := NBz38_z62.out
  have hnb103 := NBz62_z46.out
  have hnc103 := NBz46_z62.out
  obtain ⟨hcz104_0, hcz104_1⟩ := bc2 BKz62
  obtain ⟨hfz104_0, hfz104_1⟩ := bf2 BKz62
  go_wp2
  repeat (go_quiet (fail); try go_wp2)
  go_meet
  case rel => exact ⟨_, (((tz55.length : Int) != 6)), (by first | rfl | (simp; done) | (simp [*]; done)), H', ⟨by have := HK1.out; first | omega | exact Nat.le_refl _⟩, ⟨by (with_reducible repeat first | apply ra | apply rn | apply rd); exact Kd.R_mono (rf2 (Kd.R_types HO_z10000.out BKz62.out (by decide)) (fun _ hk => hk.2)) (fun _ hk => ⟨hk.1.1.1.1.2, ⟨hk.1.1.1.2, ⟨hk.1.1.2, hk.1.2⟩⟩⟩)⟩, ⟨by (with_reducible repeat first | apply ra | apply rn | apply rd); exact Kd.R_mono (rf2 (Kd.R_types HO_z10001.out BKz62.out (by decide)) (fun _ hk => hk.2)) (fun _ hk => ⟨hk.1.1.1.1.2, ⟨hk.1.1.1.2, ⟨hk.1.1.2, hk.1.2⟩⟩⟩)⟩, ⟨by (with_reducible repeat first | apply ra | apply rn | apply rd); exact Kd.R_mono (rf2 (Kd.R_types HOz33.out BKz62.out (by decide)) (fun _ hk => hk.2)) (fun _ hk => ⟨hk.1.1.1.1.2, ⟨hk.1.1.1.2, ⟨hk.1.1.2, hk.1.2⟩⟩⟩)⟩, ⟨by (with_reducible repeat first | apply ra | apply rn | apply rd); exact Kd.R_mono (rf2 (Kd.R_types HOz36.out BKz62.out (by decide)) (fun _ hk => hk.2)) (fun _ hk => ⟨hk.1.1.1.1.2, ⟨hk.1.1.1.2, ⟨hk.1.1.2, hk.1.2⟩⟩⟩)⟩, ⟨by (with_reducible repeat first | apply ra | apply rn | apply rd); exact Kd.R_mono (rf2 (Kd.R_types HOz41.out BKz62.out (by decide)) (fun _ hk => hk.2)) (fun _ hk => ⟨hk.1.1.1.1.2, ⟨hk.1.1.1.2, ⟨hk.1.1.2, hk.1.2⟩⟩⟩)⟩, ⟨by (with_reducible repeat first | apply ra | apply rn | apply rd); exact Kd.R_mono (rf2 (Kd.R_types HOz44.out BKz62.out (by decide)) (fun _ hk => hk.2)) (fun _ hk => ⟨hk.1.1.1.1.2, ⟨hk.1.1.1.2, ⟨hk.1.1.2, hk.1.2⟩⟩⟩)⟩, ⟨by (with_reducible repeat first | apply ra | apply rn | apply rd); exact Kd.R_mono (rf2 (Kd.R_types HOz49.out BKz62.out (by decide)) (fun _ hk => hk.2)) (fun _ hk => ⟨hk.1.1.1.1.2, ⟨hk.1.1.1.2, ⟨hk.1.1.2, hk.1.2⟩⟩⟩)⟩, ⟨by (with_reducible repeat first | apply ra | apply rn | apply rd); exact Kd.R_mono (rf2 (Kd.R_types HOz52.out BKz62.out (by decide)) (fun _ hk => hk.2)) (fun _ hk => ⟨hk.1.1.1.1.2, ⟨hk.1.1.1.2, ⟨hk.1.1.2, hk.1.2⟩⟩⟩)⟩, ⟨by (with_reducible repeat first | apply ra | apply rn | apply rd); exact Kd.R_mono (rf2 (Kd.R_types HOz57.out BKz62.out (by decide)) (fun _ hk => hk.2)) (fun _ hk => ⟨hk.1.1.1.1.2, ⟨hk.1.1.1.2, ⟨hk.1.1.2, hk.1.2⟩⟩⟩)⟩, ⟨by (with_reducible repeat first | apply ra | apply rn | apply rd); exact Kd.R_mono (rf2 (Kd.R_types HOz60.out BKz62.out (by decide)) (fun _ hk => hk.2)) (fun _ hk => ⟨hk.1.1.1.1.2, ⟨hk.1.1.1.2, ⟨hk.1.1.2, hk.1.2⟩⟩⟩)⟩, ⟨by (with_reducible repeat (first | refine blk_drewN ?_ _ | refine blk_drew ?_ | refine blk_alloc ?_ _)); refine blk_far ?_ NBz9_z62.out _; refine blk_far ?_ NBz9_z62.out _; (with_reducible repeat (first | refine blk_drewN ?_ _ | refine blk_drew ?_ | refine blk_alloc ?_ _)); exact BKz9.out⟩, ⟨by (with_reducible repeat (first | refine blk_drewN ?_ _ | refine blk_drew ?_ | refine blk_alloc ?_ _)); refine blk_far ?_ NBz38_z62.out _; refine blk_far ?_ NBz38_z62.out _; (with_reducible repeat (first | refine blk_drewN ?_ _ | refine blk_drew ?_ | refine blk_alloc ?_ _)); exact BKz38.out⟩, ⟨by (with_reducible repeat (first | refine blk_drewN ?_ _ | refine blk_drew ?_ | refine blk_alloc ?_ _)); refine blk_far ?_ NBz46_z62.out _; refine blk_far ?_ NBz46_z62.out _; (with_reducible repeat (first | refine blk_drewN ?_ _ | refine blk_drew ?_ | refine blk_alloc ?_ _)); exact BKz46.out⟩, ⟨by (with_reducible repeat (first | refine blk_drewN ?_ _ | refine blk_drew ?_ | refine blk_alloc ?_ _)); refine blk_far ?_ NBz54_z62.out _; refine blk_far ?_ NBz54_z62.out _; (with_reducible repeat (first | refine blk_drewN ?_ _ | refine blk_drew ?_ | refine blk_alloc ?_ _)); exact BKz54.out⟩, ⟨by (with_reducible repeat (first | refine blk_drewN ?_ _ | refine blk_drew ?_ | refine blk_alloc ?_ _)); apply bp2; (with_reducible repeat (first | refine blk_drewN ?_ _ | refine blk_drew ?_ | refine blk_alloc ?_ _)); exact BKz62.out⟩, ⟨by repeat first | (with_reducible first | exact HB.out | apply ba | apply bn | apply bd | refine bs (by assumption) ?_) | exact HB.out⟩⟩
 clear HC52
 try clear c1
 try clear q1
 try clear c2
 try clear p2
 try clear q2
 try clear c3
 try clear q3
 try clear c4
 try clear c5
 try clear c6
 try clear p6
 try clear q6
 try clear hx6
 try clear c7
 try clear c8
 try clear c9
 try clear c10
 try clear c15
 try clear c15b0
 try clear c16
 try clear c16b0
 try clear q19
 try clear c20
 try clear c22
 try clear c22b0
 try clear c22b1
 try clear c23
 try clear c23b0
 try clear q24
 try clear c25
 try clear c27
 try clear c28
 try clear c28b0
 try clear c28b1
 try clear c29
 try clear c29b0
 try clear c30
 try clear c32
 try clear c32b0
 try clear c33
 try clear c33b0
 try clear q34
 try clear c35
 try clear c37
 try clear c37b0
 try clear c37b1
 try clear c38
 try clear c39
 try clear c39b0
 try clear c40
 try clear c40b0
 try clear c41
 try clear c43
 try clear c43b0
 try clear c44
 try clear c44b0
 try clear c45
 try clear c45b0
 try clear c45b1
 try clear c46
 try clear c58
 try clear p60
 try clear q60
 try clear hx60
 try clear p64
 try clear c66
 try clear c67
 try clear c74
 try clear c75
 try clear c76
 try clear c84
 try clear c85
 try clear c86
 try clear c87
 try clear c90
 try clear c90b0
 try clear c90b1
 try clear c91
 try clear c91b0
 try clear c91b1
 try clear c92
 try clear c92b0
 try clear c92b1
 try clear c93
 try clear c93b0
 try clear c93b1
 try clear c94
 try clear c94b0
 try clear c94b1
 try clear c95
 try clear c95b0
 try clear c95b1
 try clear c96
 try clear c97
 try clear c98
 try clear c99
 try clear c101
 try clear c102
 try clear c103
 try clear c105
 try clear c106
 try clear c107
 try clear c108
 try clear hcz100_0
 try clear hcz100_1
 try clear hcz104_0
 try clear hcz104_1
 try clear hcz109_0
 try clear hcz109_1
 try clear hcz12_0
 try clear hcz12_1
 try clear hcz54_0
 try clear hcz54_1
 try clear hcz59_0
 try clear hcz59_1
 try clear hcz61_0
 try clear hcz61_1
 try clear hcz68_0
 try clear hcz68_1
 try clear hcz70_0
 try clear hcz70_1
 try clear hcz77_0
 try clear hcz77_1
 try clear hcz79_0
 try clear hcz79_1
 try clear hcz88_0
 try clear hcz88_1
 try clear hfz100_0
 try clear hfz100_1
 try clear hfz104_0
 try clear hfz104_1
 try clear hfz109_0
 try clear hfz109_1
 try clear hfz12_0
 try clear hfz12_1
 try clear hfz54_0
 try clear hfz54_1
 try clear hfz59_0
 try clear hfz59_1
 try clear hfz61_0
 try clear hfz61_1
 try clear hfz68_0
 try clear hfz68_1
 try clear hfz70_0
 try clear hfz70_1
 try clear hfz77_0
 try clear hfz77_1
 try clear hfz79_0
 try clear hfz79_1
 try clear hfz88_0
 try clear hfz88_1
 try clear hxz14_0
 try clear hxz14_1
 try clear hxz14_2
 try clear hxz15_0
 try clear hxz15_1
 try clear hxz15_2
 try clear hxz16_0
 try clear hxz16_1
 try clear hxz16_2
 try clear hxz17_0
 try clear hxz17_1
 try clear hxz17_2
 try clear hxz21_0
 try clear hxz21_1
 try clear hxz21_2
 try clear hxz22_0
 try clear hxz22_1
 try clear hxz22_2
 try clear hxz23_0
 try clear hxz27_0
 try clear hxz27_1
 try clear hxz27_2
 try clear p2
 try clear p6
 try clear pz14
 try clear pz15
 try clear pz16
 try clear pz17
 try clear pz21
 try clear pz22
 try clear pz23
 try clear pz27
 try clear q1
 try clear q19
 try clear q2
 try clear q24
 try clear q3
 try clear q34
 try clear q6
 try clear qz14
 try clear qz15
 try clear qz16
 try clear qz17
 try clear qz21
 try clear qz22
 try clear qz23
 try clear qz27
 obtain ⟨kq, x161_51, rfl, HA, HJ51, HO_z10000, HO_z10001, HO_z39000, HO_z39001, HO_z47000, HO_z47001, HO_z55000, HO_z55001, HO_z63000, HO_z63001, BKz9, BKz38, BKz46, BKz54, BKz62, HB⟩ := hcut
 cases kq with
 | zero => exact absurd HA.out (by simp [columbariumlaw14_DiskBlocks.j5])
 | succ kj51 => ?_
 have H := HA.out
 clear HA
 simp only [columbariumlaw14_DiskBlocks.j5] at H
 by_cases c110 : x161_51 = true
 ·subst c110
  have H1 : (none) = some r := by rw [if_pos rfl] at H; exact H
  clear H
  have H := H1
  clear H1
  exact absurd H (by simp)
 replace c110 := Bool.eq_false_iff.mpr c110
 subst c110
 have H1 : (columbariumlaw14_DiskBlocks.l1 kj51 tz1 tz10 0 tz31 tz34 tz39 tz42 tz47 tz50 tz55 tz58) = some r := by rw [if_neg (show ¬ (false = true) by decide)] at H; exact H
 clear H
 have H := H1
 clear H1
 have H' := am H
 clear H
 go_wp2
 repeat (go_quiet (fail); try go_wp2)
 go_loopg [24] kj51 (fun kq v24 w' => ∃ (x24_3 : Int), v24 = .int .i64 x24_3 ∧ Aside0 (columbariumlaw14_DiskBlocks.l1 kq tz1 tz10 x24_3 tz31 tz34 tz39 tz42 tz47 tz50 tz55 tz58 = some r) ∧ Aside0 (kq ≤ kj51) ∧ Aside0 (Kd.R Kd.string 9 w' w.heap.size (fun k_ => some k_ ≠ ((.slice Ao57 tz31.length co57) : Value).ownBlock ∧ some k_ ≠ ((.slice Ao65 tz39.length co65) : Value).ownBlock ∧ some k_ ≠ ((.slice Ao73 tz47.length co73) : Value).ownBlock ∧ some k_ ≠ ((.slice Ao83 tz55.length co83) : Value).ownBlock) (.slice Ao11 tz2.length co11) tz2) ∧ Aside0 (Kd.R k24 24 w' w.heap.size (fun k_ => some k_ ≠ ((.slice Ao60 tz34.length co60) : Value).ownBlock ∧ some k_ ≠ ((.slice Ao69 tz42.length co69) : Value).ownBlock ∧ some k_ ≠ ((.slice Ao78 tz50.length co78) : Value).ownBlock ∧ some k_ ≠ ((.slice Ao89 tz58.length co89) : Value).ownBlock) (.slice Ao13 tz5.length co13) tz5) ∧ Aside0 (Kd.R Kd.string 9 w' w.heap.size (fun k_ => some k_ ≠ ((.slice Ao11 tz2.length co11) : Value).ownBlock ∧ some k_ ≠ ((.slice Ao65 tz39.length co65) : Value).ownBlock ∧ some k_ ≠ ((.slice Ao73 tz47.length co73) : Value).ownBlock ∧ some k_ ≠ ((.slice Ao83 tz55.length co83) : Value).ownBlock) (.slice Ao57 tz31.length co57) tz31) ∧ Aside0 (Kd.R k24 24 w' w.heap.size (fun k_ => some k_ ≠ ((.slice Ao13 tz5.length co13) : Value).ownBlock ∧ some k_ ≠ ((.slice Ao69 tz42.length co69) : Value).ownBlock ∧ some k_ ≠ ((.slice Ao78 tz50.length co78) : Value).ownBlock ∧ some k_ ≠ ((.slice Ao89 tz58.length co89) : Value).ownBlock) (.slice Ao60 tz34.length co60) tz34) ∧ Aside0 (Kd.R Kd.string 9 w' w.heap.size (fun k_ => some k_ ≠ ((.slice Ao11 tz2.length co11) : Value).ownBlock ∧ some k_ ≠ ((.slice Ao57 tz31.length co57) : Value).ownBlock ∧ some k_ ≠ ((.slice Ao73 tz47.length co73) : Value).ownBlock ∧ some k_ ≠ ((.slice Ao83 tz55.length co83) : Value).ownBlock) (.slice Ao65 tz39.length co65) tz39) ∧ Aside0 (Kd.R k24 24 w' w.heap.size (fun k_ => some k_ ≠ ((.slice Ao13 tz5.length co13) : Value).ownBlock ∧ some k_ ≠ ((.slice Ao60 tz34.length co60) : Value).ownBlock ∧ some k_ ≠ ((.slice Ao78 tz50.length co78) : Value).ownBlock ∧ some k_ ≠ ((.slice Ao89 tz58.length co89) : Value).ownBlock) (.slice Ao69 tz42.length co69) tz42) ∧ Aside0 (Kd.R Kd.string 9 w' w.heap.size (fun k_ => some k_ ≠ ((.slice Ao11 tz2.length co11) : Value).ownBlock ∧ some k_ ≠ ((.slice Ao57 tz31.length co57) : Value).ownBlock ∧ some k_ ≠ ((.slice Ao65 tz39.length co65) : Value).ownBlock ∧ some k_ ≠ ((.slice Ao83 tz55.length co83) : Value).ownBlock) (.slice Ao73 tz47.length co73) tz47) ∧ Aside0 (Kd.R k24 24 w' w.heap.size (fun k_ => some k_ ≠ ((.slice Ao13 tz5.length co13) : Value).ownBlock ∧ some k_ ≠ ((.slice Ao60 tz34.length co60) : Value).ownBlock ∧ some k_ ≠ ((.slice Ao69 tz42.length co69) : Value).ownBlock ∧ some k_ ≠ ((.slice Ao89 tz58.length co89) : Value).ownBlock) (.slice Ao78 tz50.length co78) tz50) ∧ Aside0 (Kd.R Kd.string 9 w' w.heap.size (fun k_ => some k_ ≠ ((.slice Ao11 tz2.length co11) : Value).ownBlock ∧ some k_ ≠ ((.slice Ao57 tz31.length co57) : Value).ownBlock ∧ some k_ ≠ ((.slice Ao65 tz39.length co65) : Value).ownBlock ∧ some k_ ≠ ((.slice Ao73 tz47.length co73) : Value).ownBlock) (.slice Ao83 tz55.length co83) tz55) ∧ Aside0 (Kd.R k24 24 w' w.heap.size (fun k_ => some k_ ≠ ((.slice Ao13 tz5.length co13) : Value).ownBlock ∧ some k_ ≠ ((.slice Ao60 tz34.length co60) : Value).ownBlock ∧ some k_ ≠ ((.slice Ao69 tz42.length co69) : Value).ownBlock ∧ some k_ ≠ ((.slice Ao78 tz50.length co78) : Value).ownBlock) (.slice Ao89 tz58.length co89) tz58) ∧ Aside0 (w'.heap[gbz9]? = some (.cells #[(.slice Ao11 tz2.length co11), (.slice Ao13 tz5.length co13)] 30 (0, 0))) ∧ Aside0 (w'.heap[gbz38]? = some (.cells #[(.slice Ao57 tz31.length co57), (.slice Ao60 tz34.length co60)] 30 (0, 0))) ∧ Aside0 (w'.heap[gbz46]? = some (.cells #[(.slice Ao65 tz39.length co65), (.slice Ao69 tz42.length co69)] 30 (0, 0))) ∧ Aside0 (w'.heap[gbz54]? = some (.cells #[(.slice Ao73 tz47.length co73), (.slice Ao78 tz50.length co78)] 30 (0, 0))) ∧ Aside0 (w'.heap[gbz62]? = some (.cells #[(.slice Ao83 tz55.length co83), (.slice Ao89 tz58.length co89)] 30 (0, 0))) ∧ Aside0 (Below w.heap.size w w'))
 case atStart => exact ⟨(0), (by first | rfl | (simp; done) | (simp [*]; done)), H', ⟨Nat.le_refl _⟩, ⟨by (with_reducible repeat first | apply ra | apply rn | apply rd); exact HO_z10000.out⟩, ⟨by (with_reducible repeat first | apply ra | apply rn | apply rd); exact HO_z10001.out⟩, ⟨by (with_reducible repeat first | apply ra | apply rn | apply rd); exact HO_z39000.out⟩, ⟨by (with_reducible repeat first | apply ra | apply rn | apply rd); exact HO_z39001.out⟩, ⟨by (with_reducible repeat first | apply ra | apply rn | apply rd); exact HO_z47000.out⟩, ⟨by (with_reducible repeat first | apply ra | apply rn | apply rd); exact HO_z47001.out⟩, ⟨by (with_reducible repeat first | apply ra | apply rn | apply rd); exact HO_z55000.out⟩, ⟨by (with_reducible repeat first | apply ra | apply rn | apply rd); exact HO_z55001.out⟩, ⟨by (with_reducible repeat first | apply ra | apply rn | apply rd); exact HO_z63000.out⟩, ⟨by (with_reducible repeat first | apply ra | apply rn | apply rd); exact HO_z63001.out⟩, ⟨by (with_reducible repeat (first | refine blk_drewN ?_ _ | refine blk_drew ?_ | refine blk_alloc ?_ _)); exact BKz9.out⟩, ⟨by (with_reducible repeat (first | refine blk_drewN ?_ _ | refine blk_drew ?_ | refine blk_alloc ?_ _)); exact BKz38.out⟩, ⟨by (with_reducible repeat (first | refine blk_drewN ?_ _ | refine blk_drew ?_ | refine blk_alloc ?_ _)); exact BKz46.out⟩, ⟨by (with_reducible repeat (first | refine blk_drewN ?_ _ | refine blk_drew ?_ | refine blk_alloc ?_ _)); exact BKz54.out⟩, ⟨by (with_reducible repeat (first | refine blk_drewN ?_ _ | refine blk_drew ?_ | refine blk_alloc ?_ _)); exact BKz62.out⟩, ⟨by repeat first | (with_reducible first | exact HB.out | apply ba | apply bn | apply bd | refine bs (by assumption) ?_) | exact HB.out⟩⟩
 clear H'
 try clear c1
 try clear q1
 try clear c2
 try clear p2
 try clear q2
 try clear c3
 try clear q3
 try clear c4
 try clear c5
 try clear c6
 try clear p6
 try clear q6
 try clear hx6
 try clear c7
 try clear c8
 try clear c9
 try clear c10
 try clear c11
 try clear c15
 try clear c15b0
 try clear c16
 try clear c16b0
 try clear q19
 try clear c20
 try clear c22
 try clear c22b0
 try clear c22b1
 try clear c23
 try clear c23b0
 try clear q24
 try clear c25
 try clear c27
 try clear c28
 try clear c28b0
 try clear c28b1
 try clear c29
 try clear c29b0
 try clear c30
 try clear c32
 try clear c32b0
 try clear c33
 try clear c33b0
 try clear q34
 try clear c35
 try clear c37
 try clear c37b0
 try clear c37b1
 try clear c38
 try clear c39
 try clear c39b0
 try clear c40
 try clear c40b0
 try clear c41
 try clear c43
 try clear c43b0
 try clear c44
 try clear c44b0
 try clear c45
 try clear c45b0
 try clear c45b1
 try clear c46
 try clear c58
 try clear p60
 try clear q60
 try clear hx60
 try clear p64
 try clear c66
 try clear c67
 try clear c74
 try clear c75
 try clear c76
 try clear c84
 try clear c85
 try clear c86
 try clear c87
 try clear c90
 try clear c90b0
 try clear c90b1
 try clear c91
 try clear c91b0
 try clear c91b1
 try clear c92
 try clear c92b0
 try clear c92b1
 try clear c93
 try clear c93b0
 try clear c93b1
 try clear c94
 try clear c94b0
 try clear c94b1
 try clear c95
 try clear c95b0
 try clear c95b1
 try clear c96
 try clear c97
 try clear c98
 try clear c99
 try clear c101
 try clear c102
 try clear c103
 try clear c105
 try clear c106
 try clear c107
 try clear c108
 try clear c110
 try clear hcz100_0
 try clear hcz100_1
 try clear hcz104_0
 try clear hcz104_1
 try clear hcz109_0
 try clear hcz109_1
 try clear hcz12_0
 try clear hcz12_1
 try clear hcz54_0
 try clear hcz54_1
 try clear hcz59_0
 try clear hcz59_1
 try clear hcz61_0
 try clear hcz61_1
 try clear hcz68_0
 try clear hcz68_1
 try clear hcz70_0
 try clear hcz70_1
 try clear hcz77_0
 try clear hcz77_1
 try clear hcz79_0
 try clear hcz79_1
 try clear hcz88_0
 try clear hcz88_1
 try clear hfz100_0
 try clear hfz100_1
 try clear hfz104_0
 try clear hfz104_1
 try clear hfz109_0
 try clear hfz109_1
 try clear hfz12_0
 try clear hfz12_1
 try clear hfz54_0
 try clear hfz54_1
 try clear hfz59_0
 try clear hfz59_1
 try clear hfz61_0
 try clear hfz61_1
 try clear hfz68_0
 try clear hfz68_1
 try clear hfz70_0
 try clear hfz70_1
 try clear hfz77_0
 try clear hfz77_1
 try clear hfz79_0
 try clear hfz79_1
 try clear hfz88_0
 try clear hfz88_1
 try clear hxz14_0
 try clear hxz14_1
 try clear hxz14_2
 try clear hxz15_0
 try clear hxz15_1
 try clear hxz15_2
 try clear hxz16_0
 try clear hxz16_1
 try clear hxz16_2
 try clear hxz17_0
 try clear hxz17_1
 try clear hxz17_2
 try clear hxz21_0
 try clear hxz21_1
 try clear hxz21_2
 try clear hxz22_0
 try clear hxz22_1
 try clear hxz22_2
 try clear hxz23_0
 try clear hxz27_0
 try clear hxz27_1
 try clear hxz27_2
 try clear p2
 try clear p6
 try clear p60
 try clear pz14
 try clear pz15
 try clear pz16
 try clear pz17
 try clear pz21
 try clear pz22
 try clear pz23
 try clear pz27
 try clear p64
 try clear q1
 try clear q19
 try clear q2
 try clear q24
 try clear q3
 try clear q34
 try clear q6
 try clear q60
 try clear qz14
 try clear qz15
 try clear qz16
 try clear qz17
 try clear qz21
 try clear qz22
 try clear qz23
 try clear qz27
 obtain ⟨x24_3, rfl, HA, HK3, HO_z10000, HO_z10001, HO_z39000, HO_z39001, HO_z47000, HO_z47001, HO_z55000, HO_z55001, HO_z63000, HO_z63001, BKz9, BKz38, BKz46, BKz54, BKz62, HB⟩ := hrel
 cases gk with
 | zero => exact absurd HA.out (by simp [columbariumlaw14_DiskBlocks.l1])
 | succ k3 => ?_
 have H := HA.out
 clear HA
 simp only [columbariumlaw14_DiskBlocks.l1] at H
 by_cases c111 : x24_3 < 6
 rotate_left
 ·rw [if_neg c111] at H
  have c111b0 : decide (x24_3 < 6) = false := decide_eq_false c111
  clear c111
  obtain rfl := Option.some.inj H
  go_wp2
  repeat (go_quiet (fail); try go_wp2)
  go_ret
  exact ⟨by first | rfl | (simp <;> rfl) | (simp [*] <;> rfl), by repeat first | (with_reducible first | exact HB.out | apply ba | apply bn | apply bd | refine bs (by assumption) ?_) | exact HB.out⟩
 rw [if_pos c111] at H
 have c111b0 : decide (x24_3 < 6) = true := decide_eq_true c111
 clear c111
 replace H := ob_ H
 obtain ⟨⟨tz63, tz64⟩, A1120, H⟩ := H
 replace H : ((disk_Read.f tz39 tz42 x24_3).bind fun btz65 => (if tz64 = 0 then (if btz65.2 = 0 then (if x24_3 = tz10 then (columbariumlaw14_DiskBlocks.l1 k3 tz1 tz10 (wrap64 (x24_3 + 1)) tz31 tz34 tz39 tz42 tz47 tz50 tz55 tz58) else (if tz63.toList = btz65.1.toList then (if 0 ≤ x24_3 then (if x24_3 < (tz47.length : Int) then (if x24_3 < (tz55.length : Int) then (if (rdOf ByteArray.empty tz47 x24_3).toList = (rdOf ByteArray.empty tz55 x24_3).toList then (columbariumlaw14_DiskBlocks.l1 k3 tz1 tz10 (wrap64 (x24_3 + 1)) tz31 tz34 tz39 tz42 tz47 tz50 tz55 tz58) else (none)) else (none)) else (none)) else (none)) else (none))) else (none)) else (none))) = some r := H
 have A112 := Aside0.mk A1120
 clear A1120
 replace H := ob_ H
 obtain ⟨⟨tz65, tz66⟩, A1130, H⟩ := H
 replace H : (if tz64 = 0 then (if tz66 = 0 then (if x24_3 = tz10 then (columbariumlaw14_DiskBlocks.l1 k3 tz1 tz10 (wrap64 (x24_3 + 1)) tz31 tz34 tz39 tz42 tz47 tz50 tz55 tz58) else (if tz63.toList = tz65.toList then (if 0 ≤ x24_3 then (if x24_3 < (tz47.length : Int) then (if x24_3 < (tz55.length : Int) then (if (rdOf ByteArray.empty tz47 x24_3).toList = (rdOf ByteArray.empty tz55 x24_3).toList then (columbariumlaw14_DiskBlocks.l1 k3 tz1 tz10 (wrap64 (x24_3 + 1)) tz31 tz34 tz39 tz42 tz47 tz50 tz55 tz58) else (none)) else (none)) else (none)) else (none)) else (none))) else (none)) else (none)) = some r := H
 have A113 := Aside0.mk A1130
 clear A1130
 by_cases c114 : tz64 = 0
 rotate_left
 ·rw [if_neg c114] at H
  exact absurd H (by simp)
 rw [if_pos c114] at H
 have c114b0 : (tz64 == 0) = true := beq_iff_eq.mpr c114
 have c114b1 : (tz64 != 0) = false := bne_eq_false_iff_eq.mpr c114
 clear c114
 by_cases c115 : tz66 = 0
 rotate_left
 ·rw [if_neg c115] at H
  exact absurd H (by simp)
 rw [if_pos c115] at H
 have c115b0 : (tz66 == 0) = true := beq_iff_eq.mpr c115
 have c115b1 : (tz66 != 0) = false := bne_eq_false_iff_eq.mpr c115
 clear c115
 by_cases c116 : x24_3 = tz10
 ·rw [if_pos c116] at H
  have c116b0 : (x24_3 == tz10) = true := beq_iff_eq.mpr c116
  have c116b1 : (x24_3 != tz10) = false := bne_eq_false_iff_eq.mpr c116
  clear c116
  have H' := am H
  clear H
  have hnb117 := NBz38_z9.out
  have hnc117 := NBz9_z38.out
  have hnb118 := NBz38_z46.out
  have hnc118 := NBz46_z38.out
  have hnb119 := NBz38_z54.out
  have hnc119 := NBz54_z38.out
  have hnb120 := NBz38_z62.out
  have hnc120 := NBz62_z38.out
  obtain ⟨hcz121_0, hcz121_1⟩ := bc2 BKz38
  obtain ⟨hfz121_0, hfz121_1⟩ := bf2 BKz38
  go_wp2_with (first | (go_at_call 22; (with_reducible refine (disk_Read.calls _ _ tz31 _ _ tz34 x24_3 tz63 tz64 _ ?side1 ?side2 ?side3 ?side4 A112.out).mono ?_); (case side1 => repeat (first | exact (Kd.R_reads' HO_z39000.out).2.2 | (with_reducible refine Kd.C_alloc ?_ _) | (with_reducible refine Kd.C_drewN ?_ _) | (with_reducible refine Kd.C_drew ?_))); (case side2 => exact (Kd.R_reads' HO_z39000.out).2.1); (case side3 => repeat (first | exact (Kd.R_reads' HO_z39001.out).2.2 | (with_reducible refine Kd.C_alloc ?_ _) | (with_reducible refine Kd.C_drewN ?_ _) | (with_reducible refine Kd.C_drew ?_))); (case side4 => exact (Kd.R_reads' HO_z39001.out).2.1); rintro e w122 ⟨rfl, hb⟩; have n0_ := am (Kd.R_below (pr HO_z10000) hb); have n1_ := am (Kd.R_below (pr HO_z10001) hb); have n2_ := am (Kd.R_below (pr HO_z39000) hb); have n3_ := am (Kd.R_below (pr HO_z39001) hb); have n4_ := am (Kd.R_below (pr HO_z47000) hb); have n5_ := am (Kd.R_below (pr HO_z47001) hb); have n6_ := am (Kd.R_below (pr HO_z55000) hb); have n7_ := am (Kd.R_below (pr HO_z55001) hb); have n8_ := am (Kd.R_below (pr HO_z63000) hb); have n9_ := am (Kd.R_below (pr HO_z63001) hb); have n10_ := am (blk_below (pk BKz9) hb); have n11_ := am (blk_below (pk BKz38) hb); have n12_ := am (blk_below (pk BKz46) hb); have n13_ := am (blk_below (pk BKz54) hb); have n14_ := am (blk_below (pk BKz62) hb); have n15_ := am (below_step (by repeat first | (with_reducible first | exact HB.out | apply ba | apply bn | apply bd | refine bs (by assumption) ?_) | exact HB.out) hb); clear HO_z10000; clear HO_z10001; clear HO_z39000; clear HO_z39001; clear HO_z47000; clear HO_z47001; clear HO_z55000; clear HO_z55001; clear HO_z63000; clear HO_z63001; clear BKz9; clear BKz38; clear BKz46; clear BKz54; clear BKz62; clear HB; have HO_z10000 := n0_; have HO_z10001 := n1_; have HO_z39000 := n2_; have HO_z39001 := n3_; have HO_z47000 := n4_; have HO_z47001 := n5_; have HO_z55000 := n6_; have HO_z55001 := n7_; have HO_z63000 := n8_; have HO_z63001 := n9_; have BKz9 := n10_; have BKz38 := n11_; have BKz46 := n12_; have BKz54 := n13_; have BKz62 := n14_; have HB := n15_; clear n0_ n1_ n2_ n3_ n4_ n5_ n6_ n7_ n8_ n9_ n10_ n11_ n12_ n13_ n14_ n15_; have hnb123 := NBz46_z9.out; have hnc123 := NBz9_z46.out; have hnb124 := NBz46_z54.out; have hnc124 := NBz54_z46.out; have hnb125 := NBz46_z62.out; have hnc125 := NBz62_z46.out; obtain ⟨hcz126_0, hcz126_1⟩ := bc2 BKz46; obtain ⟨hfz126_0, hfz126_1⟩ := bf2 BKz46) | (go_at_call 22; (with_reducible refine (disk_Read.calls _ _ tz39 _ _ tz42 x24_3 tz65 tz66 _ ?side1 ?side2 ?side3 ?side4 A113.out).mono ?_); (case side1 => repeat (first | exact (Kd.R_reads' HO_z47000.out).2.2 | (with_reducible refine Kd.C_alloc ?_ _) | (with_reducible refine Kd.C_drewN ?_ _) | (with_reducible refine Kd.C_drew ?_))); (case side2 => exact (Kd.R_reads' HO_z47000.out).2.1); (case side3 => repeat (first | exact (Kd.R_reads' HO_z47001.out).2.2 | (with_reducible refine Kd.C_alloc ?_ _) | (with_reducible refine Kd.C_drewN ?_ _) | (with_reducible refine Kd.C_drew ?_))); (case side4 => exact (Kd.R_reads' HO_z47001.out).2.1); rintro e w127 ⟨rfl, hb⟩; have n0_ := am (Kd.R_below (pr HO_z10000) hb); have n1_ := am (Kd.R_below (pr HO_z10001) hb); have n2_ := am (Kd.R_below (pr HO_z39000) hb); have n3_ := am (Kd.R_below (pr HO_z39001) hb); have n4_ := am (Kd.R_below (pr HO_z47000) hb); have n5_ := am (Kd.R_below (pr HO_z47001) hb); have n6_ := am (Kd.R_below (pr HO_z55000) hb); have n7_ := am (Kd.R_below (pr HO_z55001) hb); have n8_ := am (Kd.R_below (pr HO_z63000) hb); have n9_ := am (Kd.R_below (pr HO_z63001) hb); have n10_ := am (blk_below (pk BKz9) hb); have n11_ := am (blk_below (pk BKz38) hb); have n12_ := am (blk_below (pk BKz46) hb); have n13_ := am (blk_below (pk BKz54) hb); have n14_ := am (blk_below (pk BKz62) hb); have n15_ := am (below_step (by repeat first | (with_reducible first | exact HB.out | apply ba | apply bn | apply bd | refine bs (by assumption) ?_) | exact HB.out) hb); clear HO_z10000; clear HO_z10001; clear HO_z39000; clear HO_z39001; clear HO_z47000; clear HO_z47001; clear HO_z55000; clear HO_z55001; clear HO_z63000; clear HO_z63001; clear BKz9; clear BKz38; clear BKz46; clear BKz54; clear BKz62; clear HB; have HO_z10000 := n0_; have HO_z10001 := n1_; have HO_z39000 := n2_; have HO_z39001 := n3_; have HO_z47000 := n4_; have HO_z47001 := n5_; have HO_z55000 := n6_; have HO_z55001 := n7_; have HO_z63000 := n8_; have HO_z63001 := n9_; have BKz9 := n10_; have BKz38 := n11_; have BKz46 := n12_; have BKz54 := n13_; have BKz62 := n14_; have HB := n15_; clear n0_ n1_ n2_ n3_ n4_ n5_ n6_ n7_ n8_ n9_ n10_ n11_ n12_ n13_ n14_ n15_; (try clear hi)))
  repeat (go_quiet (first | (go_at_call 22; (with_reducible refine (disk_Read.calls _ _ tz31 _ _ tz34 x24_3 tz63 tz64 _ ?side1 ?side2 ?side3 ?side4 A112.out).mono ?_); (case side1 => repeat (first | exact (Kd.R_reads' HO_z39000.out).2.2 | (with_reducible refine Kd.C_alloc ?_ _) | (with_reducible refine Kd.C_drewN ?_ _) | (with_reducible refine Kd.C_drew ?_))); (case side2 => exact (Kd.R_reads' HO_z39000.out).2.1); (case side3 => repeat (first | exact (Kd.R_reads' HO_z39001.out).2.2 | (with_reducible refine Kd.C_alloc ?_ _) | (with_reducible refine Kd.C_drewN ?_ _) | (with_reducible refine Kd.C_drew ?_))); (case side4 => exact (Kd.R_reads' HO_z39001.out).2.1); rintro e w122 ⟨rfl, hb⟩; have n0_ := am (Kd.R_below (pr HO_z10000) hb); have n1_ := am (Kd.R_below (pr HO_z10001) hb); have n2_ := am (Kd.R_below (pr HO_z39000) hb); have n3_ := am (Kd.R_below (pr HO_z39001) hb); have n4_ := am (Kd.R_below (pr HO_z47000) hb); have n5_ := am (Kd.R_below (pr HO_z47001) hb); have n6_ := am (Kd.R_below (pr HO_z55000) hb); have n7_ := am (Kd.R_below (pr HO_z55001) hb); have n8_ := am (Kd.R_below (pr HO_z63000) hb); have n9_ := am (Kd.R_below (pr HO_z63001) hb); have n10_ := am (blk_below (pk BKz9) hb); have n11_ := am (blk_below (pk BKz38) hb); have n12_ := am (blk_below (pk BKz46) hb); have n13_ := am (blk_below (pk BKz54) hb); have n14_ := am (blk_below (pk BKz62) hb); have n15_ := am (below_step (by repeat first | (with_reducible first | exact HB.out | apply ba | apply bn | apply bd | refine bs (by assumption) ?_) | exact HB.out) hb); clear HO_z10000; clear HO_z10001; clear HO_z39000; clear HO_z39001; clear HO_z47000; clear HO_z47001; clear HO_z55000; clear HO_z55001; clear HO_z63000; clear HO_z63001; clear BKz9; clear BKz38; clear BKz46; clear BKz54; clear BKz62; clear HB; have HO_z10000 := n0_; have HO_z10001 := n1_; have HO_z39000 := n2_; have HO_z39001 := n3_; have HO_z47000 := n4_; have HO_z47001 := n5_; have HO_z55000 := n6_; have HO_z55001 := n7_; have HO_z63000 := n8_; have HO_z63001 := n9_; have BKz9 := n10_; have BKz38 := n11_; have BKz46 := n12_; have BKz54 := n13_; have BKz62 := n14_; have HB := n15_; clear n0_ n1_ n2_ n3_ n4_ n5_ n6_ n7_ n8_ n9_ n10_ n11_ n12_ n13_ n14_ n15_; have hnb123 := NBz46_z9.out; have hnc123 := NBz9_z46.out; have hnb124 := NBz46_z54.out; have hnc124 := NBz54_z46.out; have hnb125 := NBz46_z62.out; have hnc125 := NBz62_z46.out; obtain ⟨hcz126_0, hcz126_1⟩ := bc2 BKz46; obtain ⟨hfz126_0, hfz126_1⟩ := bf2 BKz46) | (go_at_call 22; (with_reducible refine (disk_Read.calls _ _ tz39 _ _ tz42 x24_3 tz65 tz66 _ ?side1 ?side2 ?side3 ?side4 A113.out).mono ?_); (case side1 => repeat (first | exact (Kd.R_reads' HO_z47000.out).2.2 | (with_reducible refine Kd.C_alloc ?_ _) | (with_reducible refine Kd.C_drewN ?_ _) | (with_reducible refine Kd.C_drew ?_))); (case side2 => exact (Kd.R_reads' HO_z47000.out).2.1); (case side3 => repeat (first | exact (Kd.R_reads' HO_z47001.out).2.2 | (with_reducible refine Kd.C_alloc ?_ _) | (with_reducible refine Kd.C_drewN ?_ _) | (with_reducible refine Kd.C_drew ?_))); (case side4 => exact (Kd.R_reads' HO_z47001.out).2.1); rintro e w127 ⟨rfl, hb⟩; have n0_ := am (Kd.R_below (pr HO_z10000) hb); have n1_ := am (Kd.R_below (pr HO_z10001) hb); have n2_ := am (Kd.R_below (pr HO_z39000) hb); have n3_ := am (Kd.R_below (pr HO_z39001) hb); have n4_ := am (Kd.R_below (pr HO_z47000) hb); have n5_ := am (Kd.R_below (pr HO_z47001) hb); have n6_ := am (Kd.R_below (pr HO_z55000) hb); have n7_ := am (Kd.R_below (pr HO_z55001) hb); have n8_ := am (Kd.R_below (pr HO_z63000) hb); have n9_ := am (Kd.R_below (pr HO_z63001) hb); have n10_ := am (blk_below (pk BKz9) hb); have n11_ := am (blk_below (pk BKz38) hb); have n12_ := am (blk_below (pk BKz46) hb); have n13_ := am (blk_below (pk BKz54) hb); have n14_ := am (blk_below (pk BKz62) hb); have n15_ := am (below_step (by repeat first | (with_reducible first | exact HB.out | apply ba | apply bn | apply bd | refine bs (by assumption) ?_) | exact HB.out) hb); clear HO_z10000; clear HO_z10001; clear HO_z39000; clear HO_z39001; clear HO_z47000; clear HO_z47001; clear HO_z55000; clear HO_z55001; clear HO_z63000; clear HO_z63001; clear BKz9; clear BKz38; clear BKz46; clear BKz54; clear BKz62; clear HB; have HO_z10000 := n0_; have HO_z10001 := n1_; have HO_z39000 := n2_; have HO_z39001 := n3_; have HO_z47000 := n4_; have HO_z47001 := n5_; have HO_z55000 := n6_; have HO_z55001 := n7_; have HO_z63000 := n8_; have HO_z63001 := n9_; have BKz9 := n10_; have BKz38 := n11_; have BKz46 := n12_; have BKz54 := n13_; have BKz62 := n14_; have HB := n15_; clear n0_ n1_ n2_ n3_ n4_ n5_ n6_ n7_ n8_ n9_ n10_ n11_ n12_ n13_ n14_ n15_; (try clear hi))); try go_wp2_with (first | (go_at_call 22; (with_reducible refine (disk_Read.calls _ _ tz31 _ _ tz34 x24_3 tz63 tz64 _ ?side1 ?side2 ?side3 ?side4 A112.out).mono ?_); (case side1 => repeat (first | exact (Kd.R_reads' HO_z39000.out).2.2 | (with_reducible refine Kd.C_alloc ?_ _) | (with_reducible refine Kd.C_drewN ?_ _) | (with_reducible refine Kd.C_drew ?_))); (case side2 => exact (Kd.R_reads' HO_z39000.out).2.1); (case side3 => repeat (first | exact (Kd.R_reads' HO_z39001.out).2.2 | (with_reducible refine Kd.C_alloc ?_ _) | (with_reducible refine Kd.C_drewN ?_ _) | (with_reducible refine Kd.C_drew ?_))); (case side4 => exact (Kd.R_reads' HO_z39001.out).2.1); rintro e w122 ⟨rfl, hb⟩; have n0_ := am (Kd.R_below (pr HO_z10000) hb); have n1_ := am (Kd.R_below (pr HO_z10001) hb); have n2_ := am (Kd.R_below (pr HO_z39000) hb); have n3_ := am (Kd.R_below (pr HO_z39001) hb); have n4_ := am (Kd.R_below (pr HO_z47000) hb); have n5_ := am (Kd.R_below (pr HO_z47001) hb); have n6_ := am (Kd.R_below (pr HO_z55000) hb); have n7_ := am (Kd.R_below (pr HO_z55001) hb); have n8_ := am (Kd.R_below (pr HO_z63000) hb); have n9_ := am (Kd.R_below (pr HO_z63001) hb); have n10_ := am (blk_below (pk BKz9) hb); have n11_ := am (blk_below (pk BKz38) hb); have n12_ := am (blk_below (pk BKz46) hb); have n13_ := am (blk_below (pk BKz54) hb); have n14_ := am (blk_below (pk BKz62) hb); have n15_ := am (below_step (by repeat first | (with_reducible first | exact HB.out | apply ba | apply bn | apply bd | refine bs (by assumption) ?_) | exact HB.out) hb); clear HO_z10000; clear HO_z10001; clear HO_z39000; clear HO_z39001; clear HO_z47000; clear HO_z47001; clear HO_z55000; clear HO_z55001; clear HO_z63000; clear HO_z63001; clear BKz9; clear BKz38; clear BKz46; clear BKz54; clear BKz62; clear HB; have HO_z10000 := n0_; have HO_z10001 := n1_; have HO_z39000 := n2_; have HO_z39001 := n3_; have HO_z47000 := n4_; have HO_z47001 := n5_; have HO_z55000 := n6_; have HO_z55001 := n7_; have HO_z63000 := n8_; have HO_z63001 := n9_; have BKz9 := n10_; have BKz38 := n11_; have BKz46 := n12_; have BKz54 := n13_; have BKz62 := n14_; have HB := n15_; clear n0_ n1_ n2_ n3_ n4_ n5_ n6_ n7_ n8_ n9_ n10_ n11_ n12_ n13_ n14_ n15_; have hnb123 := NBz46_z9.out; have hnc123 := NBz9_z46.out; have hnb124 := NBz46_z54.out; have hnc124 := NBz54_z46.out; have hnb125 := NBz46_z62.out; have hnc125 := NBz62_z46.out; obtain ⟨hcz126_0, hcz126_1⟩ := bc2 BKz46; obtain ⟨hfz126_0, hfz126_1⟩ := bf2 BKz46) | (go_at_call 22; (with_reducible refine (disk_Read.calls _ _ tz39 _ _ tz42 x24_3 tz65 tz66 _ ?side1 ?side2 ?side3 ?side4 A113.out).mono ?_); (case side1 => repeat (first | exact (Kd.R_reads' HO_z47000.out).2.2 | (with_reducible refine Kd.C_alloc ?_ _) | (with_reducible refine Kd.C_drewN ?_ _) | (with_reducible refine Kd.C_drew ?_))); (case side2 => exact (Kd.R_reads' HO_z47000.out).2.1); (case side3 => repeat (first | exact (Kd.R_reads' HO_z47001.out).2.2 | (with_reducible refine Kd.C_alloc ?_ _) | (with_reducible refine Kd.C_drewN ?_ _) | (with_reducible refine Kd.C_drew ?_))); (case side4 => exact (Kd.R_reads' HO_z47001.out).2.1); rintro e w127 ⟨rfl, hb⟩; have n0_ := am (Kd.R_below (pr HO_z10000) hb); have n1_ := am (Kd.R_below (pr HO_z10001) hb); have n2_ := am (Kd.R_below (pr HO_z39000) hb); have n3_ := am (Kd.R_below (pr HO_z39001) hb); have n4_ := am (Kd.R_below (pr HO_z47000) hb); have n5_ := am (Kd.R_below (pr HO_z47001) hb); have n6_ := am (Kd.R_below (pr HO_z55000) hb); have n7_ := am (Kd.R_below (pr HO_z55001) hb); have n8_ := am (Kd.R_below (pr HO_z63000) hb); have n9_ := am (Kd.R_below (pr HO_z63001) hb); have n10_ := am (blk_below (pk BKz9) hb); have n11_ := am (blk_below (pk BKz38) hb); have n12_ := am (blk_below (pk BKz46) hb); have n13_ := am (blk_below (pk BKz54) hb); have n14_ := am (blk_below (pk BKz62) hb); have n15_ := am (below_step (by repeat first | (with_reducible first | exact HB.out | apply ba | apply bn | apply bd | refine bs (by assumption) ?_) | exact HB.out) hb); clear HO_z10000; clear HO_z10001; clear HO_z39000; clear HO_z39001; clear HO_z47000; clear HO_z47001; clear HO_z55000; clear HO_z55001; clear HO_z63000; clear HO_z63001; clear BKz9; clear BKz38; clear BKz46; clear BKz54; clear BKz62; clear HB; have HO_z10000 := n0_; have HO_z10001 := n1_; have HO_z39000 := n2_; have HO_z39001 := n3_; have HO_z47000 := n4_; have HO_z47001 := n5_; have HO_z55000 := n6_; have HO_z55001 := n7_; have HO_z63000 := n8_; have HO_z63001 := n9_; have BKz9 := n10_; have BKz38 := n11_; have BKz46 := n12_; have BKz54 := n13_; have BKz62 := n14_; have HB := n15_; clear n0_ n1_ n2_ n3_ n4_ n5_ n6_ n7_ n8_ n9_ n10_ n11_ n12_ n13_ n14_ n15_; (try clear hi))))
  go_roundg k3
  case measure => have := HK1.out; have := HJ51.out; have := HK3.out; omega
  case rel => exact ⟨(wrap64 (x24_3 + 1)), (by first | rfl | (simp; done) | (simp [*]; done)), H', ⟨by have := HK1.out; have := HJ51.out; have := HK3.out; omega⟩, ⟨by (with_reducible repeat first | apply ra | apply rn | apply rd); exact HO_z10000.out⟩, ⟨by (with_reducible repeat first | apply ra | apply rn | apply rd); exact HO_z10001.out⟩, ⟨by (with_reducible repeat first | apply ra | apply rn | apply rd); exact HO_z39000.out⟩, ⟨by (with_reducible repeat first | apply ra | apply rn | apply rd); exact HO_z39001.out⟩, ⟨by (with_reducible repeat first | apply ra | apply rn | apply rd); exact HO_z47000.out⟩, ⟨by (with_reducible repeat first | apply ra | apply rn | apply rd); exact HO_z47001.out⟩, ⟨by (with_reducible repeat first | apply ra | apply rn | apply rd); exact HO_z55000.out⟩, ⟨by (with_reducible repeat first | apply ra | apply rn | apply rd); exact HO_z55001.out⟩, ⟨by (with_reducible repeat first | apply ra | apply rn | apply rd); exact HO_z63000.out⟩, ⟨by (with_reducible repeat first | apply ra | apply rn | apply rd); exact HO_z63001.out⟩, ⟨by (with_reducible repeat (first | refine blk_drewN ?_ _ | refine blk_drew ?_ | refine blk_alloc ?_ _)); exact BKz9.out⟩, ⟨by (with_reducible repeat (first | refine blk_drewN ?_ _ | refine blk_drew ?_ | refine blk_alloc ?_ _)); exact BKz38.out⟩, ⟨by (with_reducible repeat (first | refine blk_drewN ?_ _ | refine blk_drew ?_ | refine blk_alloc ?_ _)); exact BKz46.out⟩, ⟨by (with_reducible repeat (first | refine blk_drewN ?_ _ | refine blk_drew ?_ | refine blk_alloc ?_ _)); exact BKz54.out⟩, ⟨by (with_reducible repeat (first | refine blk_drewN ?_ _ | refine blk_drew ?_ | refine blk_alloc ?_ _)); exact BKz62.out⟩, ⟨by repeat first | (with_reducible first | exact HB.out | apply ba | apply bn | apply bd | refine bs (by assumption) ?_) | exact HB.out⟩⟩
 rw [if_neg c116] at H
 have c116b0 : (x24_3 == tz10) = false := beq_eq_false_iff_ne.mpr c116
 have c116b1 : (x24_3 != tz10) = true := bne_iff_ne.mpr c116
 by_cases c128 : tz63.toList = tz65.toList
 rotate_left
 ·rw [if_neg c128] at H
  exact absurd H (by simp)
 rw [if_pos c128] at H
 have c128b0 : (tz63.toList == tz65.toList) = true := beq_iff_eq.mpr c128
 have c128b1 : (tz63.toList != tz65.toList) = false := bne_eq_false_iff_eq.mpr c128
 clear c128
 by_cases c129 : 0 ≤ x24_3
 rotate_left
 ·rw [if_neg c129] at H
  exact absurd H (by simp)
 rw [if_pos c129] at H
 have c129b0 : decide (0 ≤ x24_3) = true := decide_eq_true c129
 clear c129
 by_cases c130 : x24_3 < (tz47.length : Int)
 rotate_left
 ·rw [if_neg c130] at H
  exact absurd H (by simp)
 rw [if_pos c130] at H
 have c130b0 : decide (x24_3 < (tz47.length : Int)) = true := decide_eq_true c130
 clear c130
 by_cases c131 : x24_3 < (tz55.length : Int)
 rotate_left
 ·rw [if_neg c131] at H
  exact absurd H (by simp)
 rw [if_pos c131] at H
 have c131b0 : decide (x24_3 < (tz55.length : Int)) = true := decide_eq_true c131
 clear c131
 by_cases c132 : (rdOf ByteArray.empty tz47 x24_3).toList = (rdOf ByteArray.empty tz55 x24_3).toList
 rotate_left
 ·rw [if_neg c132] at H
  exact absurd H (by simp)
 rw [if_pos c132] at H
 have c132b0 : ((rdOf ByteArray.empty tz47 x24_3).toList == (rdOf ByteArray.empty tz55 x24_3).toList) = true := beq_iff_eq.mpr c132
 have c132b1 : ((rdOf ByteArray.empty tz47 x24_3).toList != (rdOf ByteArray.empty tz55 x24_3).toList) = false := bne_eq_false_iff_eq.mpr c132
 clear c132
 have H' := am H
 clear H
 have hnb133 := NBz38_z9.out
 have hnc133 := NBz9_z38.out
 have hnb134 := NBz38_z46.out
 have hnc134 := NBz46_z38.out
 have hnb135 := NBz38_z54.out
 have hnc135 := NBz54_z38.out
 have hnb136 := NBz38_z62.out
 have hnc136 := NBz62_z38.out
 obtain ⟨hcz137_0, hcz137_1⟩ := bc2 BKz38
 obtain ⟨hfz137_0, hfz137_1⟩ := bf2 BKz38
 go_wp2_with (first | (go_at_call 22; (with_reducible refine (disk_Read.calls _ _ tz31 _ _ tz34 x24_3 tz63 tz64 _ ?side1 ?side2 ?side3 ?side4 A112.out).mono ?_); (case side1 => repeat (first | exact (Kd.R_reads' HO_z39000.out).2.2 | (with_reducible refine Kd.C_alloc ?_ _) | (with_reducible refine Kd.C_drewN ?_ _) | (with_reducible refine Kd.C_drew ?_))); (case side2 => exact (Kd.R_reads' HO_z39000.out).2.1); (case side3 => repeat (first | exact (Kd.R_reads' HO_z39001.out).2.2 | (with_reducible refine Kd.C_alloc ?_ _) | (with_reducible refine Kd.C_drewN ?_ _) | (with_reducible refine Kd.C_drew ?_))); (case side4 => exact (Kd.R_reads' HO_z39001.out).2.1); rintro e w138 ⟨rfl, hb⟩; have n0_ := am (Kd.R_below (pr HO_z10000) hb); have n1_ := am (Kd.R_below (pr HO_z10001) hb); have n2_ := am (Kd.R_below (pr HO_z39000) hb); have n3_ := am (Kd.R_below (pr HO_z39001) hb); have n4_ := am (Kd.R_below (pr HO_z47000) hb); have n5_ := am (Kd.R_below (pr HO_z47001) hb); have n6_ := am (Kd.R_below (pr HO_z55000) hb); have n7_ := am (Kd.R_below (pr HO_z55001) hb); have n8_ := am (Kd.R_below (pr HO_z63000) hb); have n9_ := am (Kd.R_below (pr HO_z63001) hb); have n10_ := am (blk_below (pk BKz9) hb); have n11_ := am (blk_below (pk BKz38) hb); have n12_ := am (blk_below (pk BKz46) hb); have n13_ := am (blk_below (pk BKz54) hb); have n14_ := am (blk_below (pk BKz62) hb); have n15_ := am (below_step (by repeat first | (with_reducible first | exact HB.out | apply ba | apply bn | apply bd | refine bs (by assumption) ?_) | exact HB.out) hb); clear HO_z10000; clear HO_z10001; clear HO_z39000; clear HO_z39001; clear HO_z47000; clear HO_z47001; clear HO_z55000; clear HO_z55001; clear HO_z63000; clear HO_z63001; clear BKz9; clear BKz38; clear BKz46; clear BKz54; clear BKz62; clear HB; have HO_z10000 := n0_; have HO_z10001 := n1_; have HO_z39000 := n2_; have HO_z39001 := n3_; have HO_z47000 := n4_; have HO_z47001 := n5_; have HO_z55000 := n6_; have HO_z55001 := n7_; have HO_z63000 := n8_; have HO_z63001 := n9_; have BKz9 := n10_; have BKz38 := n11_; have BKz46 := n12_; have BKz54 := n13_; have BKz62 := n14_; have HB := n15_; clear n0_ n1_ n2_ n3_ n4_ n5_ n6_ n7_ n8_ n9_ n10_ n11_ n12_ n13_ n14_ n15_; have hnb139 := NBz46_z9.out; have hnc139 := NBz9_z46.out; have hnb140 := NBz46_z54.out; have hnc140 := NBz54_z46.out; have hnb141 := NBz46_z62.out; have hnc141 := NBz62_z46.out; obtain ⟨hcz142_0, hcz142_1⟩ := bc2 BKz46; obtain ⟨hfz142_0, hfz142_1⟩ := bf2 BKz46) | (go_at_call 22; (with_reducible refine (disk_Read.calls _ _ tz39 _ _ tz42 x24_3 tz65 tz66 _ ?side1 ?side2 ?side3 ?side4 A113.out).mono ?_); (case side1 => repeat (first | exact (Kd.R_reads' HO_z47000.out).2.2 | (with_reducible refine Kd.C_alloc ?_ _) | (with_reducible refine Kd.C_drewN ?_ _) | (with_reducible refine Kd.C_drew ?_))); (case side2 => exact (Kd.R_reads' HO_z47000.out).2.1); (case side3 => repeat (first | exact (Kd.R_reads' HO_z47001.out).2.2 | (with_reducible refine Kd.C_alloc ?_ _) | (with_reducible refine Kd.C_drewN ?_ _) | (with_reducible refine Kd.C_drew ?_))); (case side4 => exact (Kd.R_reads' HO_z47001.out).2.1); rintro e w143 ⟨rfl, hb⟩; have n0_ := am (Kd.R_below (pr HO_z10000) hb); have n1_ := am (Kd.R_below (pr HO_z10001) hb); have n2_ := am (Kd.R_below (pr HO_z39000) hb); have n3_ := am (Kd.R_below (pr HO_z39001) hb); have n4_ := am (Kd.R_below (pr HO_z47000) hb); have n5_ := am (Kd.R_below (pr HO_z47001) hb); have n6_ := am (Kd.R_below (pr HO_z55000) hb); have n7_ := am (Kd.R_below (pr HO_z55001) hb); have n8_ := am (Kd.R_below (pr HO_z63000) hb); have n9_ := am (Kd.R_below (pr HO_z63001) hb); have n10_ := am (blk_below (pk BKz9) hb); have n11_ := am (blk_below (pk BKz38) hb); have n12_ := am (blk_below (pk BKz46) hb); have n13_ := am (blk_below (pk BKz54) hb); have n14_ := am (blk_below (pk BKz62) hb); have n15_ := am (below_step (by repeat first | (with_reducible first | exact HB.out | apply ba | apply bn | apply bd | refine bs (by assumption) ?_) | exact HB.out) hb); clear HO_z10000; clear HO_z10001; clear HO_z39000; clear HO_z39001; clear HO_z47000; clear HO_z47001; clear HO_z55000; clear HO_z55001; clear HO_z63000; clear HO_z63001; clear BKz9; clear BKz38; clear BKz46; clear BKz54; clear BKz62; clear HB; have HO_z10000 := n0_; have HO_z10001 := n1_; have HO_z39000 := n2_; have HO_z39001 := n3_; have HO_z47000 := n4_; have HO_z47001 := n5_; have HO_z55000 := n6_; have HO_z55001 := n7_; have HO_z63000 := n8_; have HO_z63001 := n9_; have BKz9 := n10_; have BKz38 := n11_; have BKz46 := n12_; have BKz54 := n13_; have BKz62 := n14_; have HB := n15_; clear n0_ n1_ n2_ n3_ n4_ n5_ n6_ n7_ n8_ n9_ n10_ n11_ n12_ n13_ n14_ n15_; have hnb144 := NBz54_z9.out; have hnc144 := NBz9_z54.out; have hnb145 := NBz54_z62.out; have hnc145 := NBz62_z54.out; obtain ⟨hcz146_0, hcz146_1⟩ := bc2 BKz54; obtain ⟨hfz146_0, hfz146_1⟩ := bf2 BKz54; have pz67 : 0 ≤ (x24_3 : Int) := of_decide_eq_true (by first | (with_reducible assumption) | assumption); have qz67 : x24_3 < (tz47.length : Int) := of_decide_eq_true (by first | (with_reducible assumption) | assumption); obtain ⟨adz67, ez67, hxz67_0⟩ := Kd.at_string (Kd.R_reads' HO_z55000.out).2.2 x24_3 pz67 qz67; cases ez67; replace pz67 := eq_true pz67; replace qz67 := eq_true qz67; have hnb147 := NBz62_z9.out; have hnc147 := NBz9_z62.out; obtain ⟨hcz148_0, hcz148_1⟩ := bc2 BKz62; obtain ⟨hfz148_0, hfz148_1⟩ := bf2 BKz62; have pz68 : 0 ≤ (x24_3 : Int) := of_decide_eq_true (by first | (with_reducible assumption) | assumption); have qz68 : x24_3 < (tz55.length : Int) := of_decide_eq_true (by first | (with_reducible assumption) | assumption); obtain ⟨adz68, ez68, hxz68_0⟩ := Kd.at_string (Kd.R_reads' HO_z63000.out).2.2 x24_3 pz68 qz68; cases ez68; replace pz68 := eq_true pz68; replace qz68 := eq_true qz68))
 repeat (go_quiet (first | (go_at_call 22; (with_reducible refine (disk_Read.calls _ _ tz31 _ _ tz34 x24_3 tz63 tz64 _ ?side1 ?side2 ?side3 ?side4 A112.out).mono ?_); (case side1 => repeat (first | exact (Kd.R_reads' HO_z39000.out).2.2 | (with_reducible refine Kd.C_alloc ?_ _) | (with_reducible refine Kd.C_drewN ?_ _) | (with_reducible refine Kd.C_drew ?_))); (case side2 => exact (Kd.R_reads' HO_z39000.out).2.1); (case side3 => repeat (first | exact (Kd.R_reads' HO_z39001.out).2.2 | (with_reducible refine Kd.C_alloc ?_ _) | (with_reducible refine Kd.C_drewN ?_ _) | (with_reducible refine Kd.C_drew ?_))); (case side4 => exact (Kd.R_reads' HO_z39001.out).2.1); rintro e w138 ⟨rfl, hb⟩; have n0_ := am (Kd.R_below (pr HO_z10000) hb); have n1_ := am (Kd.R_below (pr HO_z10001) hb); have n2_ := am (Kd.R_below (pr HO_z39000) hb); have n3_ := am (Kd.R_below (pr HO_z39001) hb); have n4_ := am (Kd.R_below (pr HO_z47000) hb); have n5_ := am (Kd.R_below (pr HO_z47001) hb); have n6_ := am (Kd.R_below (pr HO_z55000) hb); have n7_ := am (Kd.R_below (pr HO_z55001) hb); have n8_ := am (Kd.R_below (pr HO_z63000) hb); have n9_ := am (Kd.R_below (pr HO_z63001) hb); have n10_ := am (blk_below (pk BKz9) hb); have n11_ := am (blk_below (pk BKz38) hb); have n12_ := am (blk_below (pk BKz46) hb); have n13_ := am (blk_below (pk BKz54) hb); have n14_ := am (blk_below (pk BKz62) hb); have n15_ := am (below_step (by repeat first | (with_reducible first | exact HB.out | apply ba | apply bn | apply bd | refine bs (by assumption) ?_) | exact HB.out) hb); clear HO_z10000; clear HO_z10001; clear HO_z39000; clear HO_z39001; clear HO_z47000; clear HO_z47001; clear HO_z55000; clear HO_z55001; clear HO_z63000; clear HO_z63001; clear BKz9; clear BKz38; clear BKz46; clear BKz54; clear BKz62; clear HB; have HO_z10000 := n0_; have HO_z10001 := n1_; have HO_z39000 := n2_; have HO_z39001 := n3_; have HO_z47000 := n4_; have HO_z47001 := n5_; have HO_z55000 := n6_; have HO_z55001 := n7_; have HO_z63000 := n8_; have HO_z63001 := n9_; have BKz9 := n10_; have BKz38 := n11_; have BKz46 := n12_; have BKz54 := n13_; have BKz62 := n14_; have HB := n15_; clear n0_ n1_ n2_ n3_ n4_ n5_ n6_ n7_ n8_ n9_ n10_ n11_ n12_ n13_ n14_ n15_; have hnb139 := NBz46_z9.out; have hnc139 := NBz9_z46.out; have hnb140 := NBz46_z54.out; have hnc140 := NBz54_z46.out; have hnb141 := NBz46_z62.out; have hnc141 := NBz62_z46.out; obtain ⟨hcz142_0, hcz142_1⟩ := bc2 BKz46; obtain ⟨hfz142_0, hfz142_1⟩ := bf2 BKz46) | (go_at_call 22; (with_reducible refine (disk_Read.calls _ _ tz39 _ _ tz42 x24_3 tz65 tz66 _ ?side1 ?side2 ?side3 ?side4 A113.out).mono ?_); (case side1 => repeat (first | exact (Kd.R_reads' HO_z47000.out).2.2 | (with_reducible refine Kd.C_alloc ?_ _) | (with_reducible refine Kd.C_drewN ?_ _) | (with_reducible refine Kd.C_drew ?_))); (case side2 => exact (Kd.R_reads' HO_z47000.out).2.1); (case side3 => repeat (first | exact (Kd.R_reads' HO_z47001.out).2.2 | (with_reducible refine Kd.C_alloc ?_ _) | (with_reducible refine Kd.C_drewN ?_ _) | (with_reducible refine Kd.C_drew ?_))); (case side4 => exact (Kd.R_reads' HO_z47001.out).2.1); rintro e w143 ⟨rfl, hb⟩; have n0_ := am (Kd.R_below (pr HO_z10000) hb); have n1_ := am (Kd.R_below (pr HO_z10001) hb); have n2_ := am (Kd.R_below (pr HO_z39000) hb); have n3_ := am (Kd.R_below (pr HO_z39001) hb); have n4_ := am (Kd.R_below (pr HO_z47000) hb); have n5_ := am (Kd.R_below (pr HO_z47001) hb); have n6_ := am (Kd.R_below (pr HO_z55000) hb); have n7_ := am (Kd.R_below (pr HO_z55001) hb); have n8_ := am (Kd.R_below (pr HO_z63000) hb); have n9_ := am (Kd.R_below (pr HO_z63001) hb); have n10_ := am (blk_below (pk BKz9) hb); have n11_ := am (blk_below (pk BKz38) hb); have n12_ := am (blk_below (pk BKz46) hb); have n13_ := am (blk_below (pk BKz54) hb); have n14_ := am (blk_below (pk BKz62) hb); have n15_ := am (below_step (by repeat first | (with_reducible first | exact HB.out | apply ba | apply bn | apply bd | refine bs (by assumption) ?_) | exact HB.out) hb); clear HO_z10000; clear HO_z10001; clear HO_z39000; clear HO_z39001; clear HO_z47000; clear HO_z47001; clear HO_z55000; clear HO_z55001; clear HO_z63000; clear HO_z63001; clear BKz9; clear BKz38; clear BKz46; clear BKz54; clear BKz62; clear HB; have HO_z10000 := n0_; have HO_z10001 := n1_; have HO_z39000 := n2_; have HO_z39001 := n3_; have HO_z47000 := n4_; have HO_z47001 := n5_; have HO_z55000 := n6_; have HO_z55001 := n7_; have HO_z63000 := n8_; have HO_z63001 := n9_; have BKz9 := n10_; have BKz38 := n11_; have BKz46 := n12_; have BKz54 := n13_; have BKz62 := n14_; have HB := n15_; clear n0_ n1_ n2_ n3_ n4_ n5_ n6_ n7_ n8_ n9_ n10_ n11_ n12_ n13_ n14_ n15_; have hnb144 := NBz54_z9.out; have hnc144 := NBz9_z54.out; have hnb145 := NBz54_z62.out; have hnc145 := NBz62_z54.out; obtain ⟨hcz146_0, hcz146_1⟩ := bc2 BKz54; obtain ⟨hfz146_0, hfz146_1⟩ := bf2 BKz54; have pz67 : 0 ≤ (x24_3 : Int) := of_decide_eq_true (by first | (with_reducible assumption) | assumption); have qz67 : x24_3 < (tz47.length : Int) := of_decide_eq_true (by first | (with_reducible assumption) | assumption); obtain ⟨adz67, ez67, hxz67_0⟩ := Kd.at_string (Kd.R_reads' HO_z55000.out).2.2 x24_3 pz67 qz67; cases ez67; replace pz67 := eq_true pz67; replace qz67 := eq_true qz67; have hnb147 := NBz62_z9.out; have hnc147 := NBz9_z62.out; obtain ⟨hcz148_0, hcz148_1⟩ := bc2 BKz62; obtain ⟨hfz148_0, hfz148_1⟩ := bf2 BKz62; have pz68 : 0 ≤ (x24_3 : Int) := of_decide_eq_true (by first | (with_reducible assumption) | assumption); have qz68 : x24_3 < (tz55.length : Int) := of_decide_eq_true (by first | (with_reducible assumption) | assumption); obtain ⟨adz68, ez68, hxz68_0⟩ := Kd.at_string (Kd.R_reads' HO_z63000.out).2.2 x24_3 pz68 qz68; cases ez68; replace pz68 := eq_true pz68; replace qz68 := eq_true qz68)); try go_wp2_with (first | (go_at_call 22; (with_reducible refine (disk_Read.calls _ _ tz31 _ _ tz34 x24_3 tz63 tz64 _ ?side1 ?side2 ?side3 ?side4 A112.out).mono ?_); (case side1 => repeat (first | exact (Kd.R_reads' HO_z39000.out).2.2 | (with_reducible refine Kd.C_alloc ?_ _) | (with_reducible refine Kd.C_drewN ?_ _) | (with_reducible refine Kd.C_drew ?_))); (case side2 => exact (Kd.R_reads' HO_z39000.out).2.1); (case side3 => repeat (first | exact (Kd.R_reads' HO_z39001.out).2.2 | (with_reducible refine Kd.C_alloc ?_ _) | (with_reducible refine Kd.C_drewN ?_ _) | (with_reducible refine Kd.C_drew ?_))); (case side4 => exact (Kd.R_reads' HO_z39001.out).2.1); rintro e w138 ⟨rfl, hb⟩; have n0_ := am (Kd.R_below (pr HO_z10000) hb); have n1_ := am (Kd.R_below (pr HO_z10001) hb); have n2_ := am (Kd.R_below (pr HO_z39000) hb); have n3_ := am (Kd.R_below (pr HO_z39001) hb); have n4_ := am (Kd.R_below (pr HO_z47000) hb); have n5_ := am (Kd.R_below (pr HO_z47001) hb); have n6_ := am (Kd.R_below (pr HO_z55000) hb); have n7_ := am (Kd.R_below (pr HO_z55001) hb); have n8_ := am (Kd.R_below (pr HO_z63000) hb); have n9_ := am (Kd.R_below (pr HO_z63001) hb); have n10_ := am (blk_below (pk BKz9) hb); have n11_ := am (blk_below (pk BKz38) hb); have n12_ := am (blk_below (pk BKz46) hb); have n13_ := am (blk_below (pk BKz54) hb); have n14_ := am (blk_below (pk BKz62) hb); have n15_ := am (below_step (by repeat first | (with_reducible first | exact HB.out | apply ba | apply bn | apply bd | refine bs (by assumption) ?_) | exact HB.out) hb); clear HO_z10000; clear HO_z10001; clear HO_z39000; clear HO_z39001; clear HO_z47000; clear HO_z47001; clear HO_z55000; clear HO_z55001; clear HO_z63000; clear HO_z63001; clear BKz9; clear BKz38; clear BKz46; clear BKz54; clear BKz62; clear HB; have HO_z10000 := n0_; have HO_z10001 := n1_; have HO_z39000 := n2_; have HO_z39001 := n3_; have HO_z47000 := n4_; have HO_z47001 := n5_; have HO_z55000 := n6_; have HO_z55001 := n7_; have HO_z63000 := n8_; have HO_z63001 := n9_; have BKz9 := n10_; have BKz38 := n11_; have BKz46 := n12_; have BKz54 := n13_; have BKz62 := n14_; have HB := n15_; clear n0_ n1_ n2_ n3_ n4_ n5_ n6_ n7_ n8_ n9_ n10_ n11_ n12_ n13_ n14_ n15_; have hnb139 := NBz46_z9.out; have hnc139 := NBz9_z46.out; have hnb140 := NBz46_z54.out; have hnc140 := NBz54_z46.out; have hnb141 := NBz46_z62.out; have hnc141 := NBz62_z46.out; obtain ⟨hcz142_0, hcz142_1⟩ := bc2 BKz46; obtain ⟨hfz142_0, hfz142_1⟩ := bf2 BKz46) | (go_at_call 22; (with_reducible refine (disk_Read.calls _ _ tz39 _ _ tz42 x24_3 tz65 tz66 _ ?side1 ?side2 ?side3 ?side4 A113.out).mono ?_); (case side1 => repeat (first | exact (Kd.R_reads' HO_z47000.out).2.2 | (with_reducible refine Kd.C_alloc ?_ _) | (with_reducible refine Kd.C_drewN ?_ _) | (with_reducible refine Kd.C_drew ?_))); (case side2 => exact (Kd.R_reads' HO_z47000.out).2.1); (case side3 => repeat (first | exact (Kd.R_reads' HO_z47001.out).2.2 | (with_reducible refine Kd.C_alloc ?_ _) | (with_reducible refine Kd.C_drewN ?_ _) | (with_reducible refine Kd.C_drew ?_))); (case side4 => exact (Kd.R_reads' HO_z47001.out).2.1); rintro e w143 ⟨rfl, hb⟩; have n0_ := am (Kd.R_below (pr HO_z10000) hb); have n1_ := am (Kd.R_below (pr HO_z10001) hb); have n2_ := am (Kd.R_below (pr HO_z39000) hb); have n3_ := am (Kd.R_below (pr HO_z39001) hb); have n4_ := am (Kd.R_below (pr HO_z47000) hb); have n5_ := am (Kd.R_below (pr HO_z47001) hb); have n6_ := am (Kd.R_below (pr HO_z55000) hb); have n7_ := am (Kd.R_below (pr HO_z55001) hb); have n8_ := am (Kd.R_below (pr HO_z63000) hb); have n9_ := am (Kd.R_below (pr HO_z63001) hb); have n10_ := am (blk_below (pk BKz9) hb); have n11_ := am (blk_below (pk BKz38) hb); have n12_ := am (blk_below (pk BKz46) hb); have n13_ := am (blk_below (pk BKz54) hb); have n14_ := am (blk_below (pk BKz62) hb); have n15_ := am (below_step (by repeat first | (with_reducible first | exact HB.out | apply ba | apply bn | apply bd | refine bs (by assumption) ?_) | exact HB.out) hb); clear HO_z10000; clear HO_z10001; clear HO_z39000; clear HO_z39001; clear HO_z47000; clear HO_z47001; clear HO_z55000; clear HO_z55001; clear HO_z63000; clear HO_z63001; clear BKz9; clear BKz38; clear BKz46; clear BKz54; clear BKz62; clear HB; have HO_z10000 := n0_; have HO_z10001 := n1_; have HO_z39000 := n2_; have HO_z39001 := n3_; have HO_z47000 := n4_; have HO_z47001 := n5_; have HO_z55000 := n6_; have HO_z55001 := n7_; have HO_z63000 := n8_; have HO_z63001 := n9_; have BKz9 := n10_; have BKz38 := n11_; have BKz46 := n12_; have BKz54 := n13_; have BKz62 := n14_; have HB := n15_; clear n0_ n1_ n2_ n3_ n4_ n5_ n6_ n7_ n8_ n9_ n10_ n11_ n12_ n13_ n14_ n15_; have hnb144 := NBz54_z9.out; have hnc144 := NBz9_z54.out; have hnb145 := NBz54_z62.out; have hnc145 := NBz62_z54.out; obtain ⟨hcz146_0, hcz146_1⟩ := bc2 BKz54; obtain ⟨hfz146_0, hfz146_1⟩ := bf2 BKz54; have pz67 : 0 ≤ (x24_3 : Int) := of_decide_eq_true (by first | (with_reducible assumption) | assumption); have qz67 : x24_3 < (tz47.length : Int) := of_decide_eq_true (by first | (with_reducible assumption) | assumption); obtain ⟨adz67, ez67, hxz67_0⟩ := Kd.at_string (Kd.R_reads' HO_z55000.out).2.2 x24_3 pz67 qz67; cases ez67; replace pz67 := eq_true pz67; replace qz67 := eq_true qz67; have hnb147 := NBz62_z9.out; have hnc147 := NBz9_z62.out; obtain ⟨hcz148_0, hcz148_1⟩ := bc2 BKz62; obtain ⟨hfz148_0, hfz148_1⟩ := bf2 BKz62; have pz68 : 0 ≤ (x24_3 : Int) := of_decide_eq_true (by first | (with_reducible assumption) | assumption); have qz68 : x24_3 < (tz55.length : Int) := of_decide_eq_true (by first | (with_reducible assumption) | assumption); obtain ⟨adz68, ez68, hxz68_0⟩ := Kd.at_string (Kd.R_reads' HO_z63000.out).2.2 x24_3 pz68 qz68; cases ez68; replace pz68 := eq_true pz68; replace qz68 := eq_true qz68)))
 go_roundg k3
 case measure => have := HK1.out; have := HJ51.out; have := HK3.out; omega
 case rel => exact ⟨(wrap64 (x24_3 + 1)), (by first | rfl | (simp; done) | (simp [*]; done)), H', ⟨by have := HK1.out; have := HJ51.out; have := HK3.out; omega⟩, ⟨by (with_reducible repeat first | apply ra | apply rn | apply rd); exact HO_z10000.out⟩, ⟨by (with_reducible repeat first | apply ra | apply rn | apply rd); exact HO_z10001.out⟩, ⟨by (with_reducible repeat first | apply ra | apply rn | apply rd); exact HO_z39000.out⟩, ⟨by (with_reducible repeat first | apply ra | apply rn | apply rd); exact HO_z39001.out⟩, ⟨by (with_reducible repeat first | apply ra | apply rn | apply rd); exact HO_z47000.out⟩, ⟨by (with_reducible repeat first | apply ra | apply rn | apply rd); exact HO_z47001.out⟩, ⟨by (with_reducible repeat first | apply ra | apply rn | apply rd); exact HO_z55000.out⟩, ⟨by (with_reducible repeat first | apply ra | apply rn | apply rd); exact HO_z55001.out⟩, ⟨by (with_reducible repeat first | apply ra | apply rn | apply rd); exact HO_z63000.out⟩, ⟨by (with_reducible repeat first | apply ra | apply rn | apply rd); exact HO_z63001.out⟩, ⟨by (with_reducible repeat (first | refine blk_drewN ?_ _ | refine blk_drew ?_ | refine blk_alloc ?_ _)); exact BKz9.out⟩, ⟨by (with_reducible repeat (first | refine blk_drewN ?_ _ | refine blk_drew ?_ | refine blk_alloc ?_ _)); exact BKz38.out⟩, ⟨by (with_reducible repeat (first | refine blk_drewN ?_ _ | refine blk_drew ?_ | refine blk_alloc ?_ _)); exact BKz46.out⟩, ⟨by (with_reducible repeat (first | refine blk_drewN ?_ _ | refine blk_drew ?_ | refine blk_alloc ?_ _)); exact BKz54.out⟩, ⟨by (with_reducible repeat (first | refine blk_drewN ?_ _ | refine blk_drew ?_ | refine blk_alloc ?_ _)); exact BKz62.out⟩, ⟨by repeat first | (with_reducible first | exact HB.out | apply ba | apply bn | apply bd | refine bs (by assumption) ?_) | exact HB.out⟩⟩

end Go.Proofs.Ytcfinlmocgbnbaa.Pr
