-- Written by wip/tools/xprint.py, a patched run of the kit's print: not typed by hand.
import Derived.Test.YtcfinlmocgbnbaaXSr
import Derived.Test.YtcfinlmocgbnbaaPr0
import Derived.Test.YtcfinlmocgbnbaaPrFcolumbariumlaw14Moves
import Derived.Test.YtcfinlmocgbnbaaPrFcolumbariumlaw14awake
import Derived.Test.YtcfinlmocgbnbaaPrFcolumbariumlaw14pick
import Derived.Test.YtcfinlmocgbnbaaPrFcolumbariumref14Same
import Derived.Test.YtcfinlmocgbnbaaXCrash
import Derived.Test.YtcfinlmocgbnbaaXDo
import Derived.Test.YtcfinlmocgbnbaaXNew
namespace Go.Proofs.Ytcfinlmocgbnbaa.Pr
open Go.Proofs.Ytcfinlmocgbnbaa.Sq Go.RowKit Go.Proofs.YtcfinlmocgbnbaaW.PrintWords Go.Proofs.YtcfinlmocgbnbaaW.PrintLast Go.Proofs.YtcfinlmocgbnbaaW.PrintMore
attribute [local go_sem] max2_int min2_int max_two min_two max_three min_three max_four min_four   -- for this text's walks alone
set_option linter.unusedVariables false
set_option linter.unusedSimpArgs false

/-! ### columbariumlaw14_DiskCrashes: function 5 -/
mutual
def columbariumlaw14_DiskCrashes.j0 : Nat → List Int → Bool → Int → Bool → List ByteArray → List (S24) → Option (Bool)
 | 0, _, _, _, _, _, _ => none
 | k + 1, x2, x9, x10, x95, xz47000, xz47001 => if x95 = true then (none) else (columbariumlaw14_DiskCrashes.l0 k x2 x9 x10 ([] : List Int) ([] : List Int) 0 xz47000 xz47001)
def columbariumlaw14_DiskCrashes.l0 : Nat → List Int → Bool → Int → List Int → List Int → Int → List ByteArray → List (S24) → Option (Bool)
 | 0, _, _, _, _, _, _, _, _ => none
 | k + 1, x2, x9, x10, x21, x22, x23, xz47000, xz47001 => if x23 < (xz47001.length : Int) then (if x21.length < 17592186044416 then ((some (x21 ++ [wrap64 (64 + x23)] : List Int)).bind fun yz48 => (if x23 < (x2.length : Int) then (if 0 ≤ x23 then ((columbariumlaw14_pick.f (rd x2 x23) 65).bind fun tz52 => (if x22.length < 17592186044416 then (columbariumlaw14_DiskCrashes.l0 k x2 x9 x10 yz48 (x22 ++ [tz52]) (wrap64 (x23 + 1)) xz47000 xz47001) else (none))) else (none)) else (if x22.length < 17592186044416 then (columbariumlaw14_DiskCrashes.l0 k x2 x9 x10 yz48 (x22 ++ [0]) (wrap64 (x23 + 1)) xz47000 xz47001) else (none)))) else (none)) else ((disk_Crash.f xz47000 xz47001 x21).bind fun btz59 => ((disk_Do.f xz47000 xz47001 (([(⟨true, 0, (⟨#[]⟩ : ByteArray)⟩ : S24)] : List (S24)))).bind fun btz70 => ((disk_Crash.f xz47000 xz47001 ([] : List Int)).bind fun btz78 => ((disk_Crash.f xz47000 xz47001 x22).bind fun btz86 => (if btz59.2.2 = 0 then (if btz70.2.2 = 0 then (if btz78.2.2 = 0 then (if btz86.2.2 = 0 then ((columbariumref14_Same.f k btz59.1 btz59.2.1 btz70.1 btz70.2.1).bind fun tz94 => (if tz94 = true then (if (btz78.2.1.length : Int) = 0 then (if (btz78.1.length : Int) = x10 then (if (btz86.1.length : Int) = x10 then (columbariumlaw14_DiskCrashes.j2 k x9 x10 ((xz47000.length : Int) != x10) xz47000 xz47001 btz78.1 btz78.2.1 btz86.1 btz86.2.1) else (columbariumlaw14_DiskCrashes.j2 k x9 x10 true xz47000 xz47001 btz78.1 btz78.2.1 btz86.1 btz86.2.1)) else (columbariumlaw14_DiskCrashes.j2 k x9 x10 true xz47000 xz47001 btz78.1 btz78.2.1 btz86.1 btz86.2.1)) else (columbariumlaw14_DiskCrashes.j2 k x9 x10 true xz47000 xz47001 btz78.1 btz78.2.1 btz86.1 btz86.2.1)) else (columbariumlaw14_DiskCrashes.j2 k x9 x10 true xz47000 xz47001 btz78.1 btz78.2.1 btz86.1 btz86.2.1))) else (columbariumlaw14_DiskCrashes.j2 k x9 x10 true xz47000 xz47001 btz78.1 btz78.2.1 btz86.1 btz86.2.1)) else (columbariumlaw14_DiskCrashes.j2 k x9 x10 true xz47000 xz47001 btz78.1 btz78.2.1 btz86.1 btz86.2.1)) else (columbariumlaw14_DiskCrashes.j2 k x9 x10 true xz47000 xz47001 btz78.1 btz78.2.1 btz86.1 btz86.2.1)) else (columbariumlaw14_DiskCrashes.j2 k x9 x10 true xz47000 xz47001 btz78.1 btz78.2.1 btz86.1 btz86.2.1))))))
def columbariumlaw14_DiskCrashes.j2 : Nat → Bool → Int → Bool → List ByteArray → List (S24) → List ByteArray → List (S24) → List ByteArray → List (S24) → Option (Bool)
 | 0, _, _, _, _, _, _, _, _, _ => none
 | k + 1, x9, x10, x191, xz47000, xz47001, xz86000, xz86001, xz94000, xz94001 => if x191 = true then (none) else (columbariumlaw14_DiskCrashes.l1 k x9 x10 0 xz47000 xz47001 xz86000 xz86001 xz94000 xz94001)
def columbariumlaw14_DiskCrashes.l1 : Nat → Bool → Int → Int → List ByteArray → List (S24) → List ByteArray → List (S24) → List ByteArray → List (S24) → Option (Bool)
 | 0, _, _, _, _, _, _, _, _, _ => none
 | k + 1, x9, x10, x33, xz47000, xz47001, xz86000, xz86001, xz94000, xz94001 => if x33 < x10 then (if 0 ≤ x33 then (if x33 < (xz86000.length : Int) then (if x33 < (xz47000.length : Int) then (if (rdOf ByteArray.empty xz86000 x33).toList = (rdOf ByteArray.empty xz47000 x33).toList then (if x33 < (xz94000.length : Int) then (if ((rdOf ByteArray.empty xz94000 x33).size : Int) = 64 then (columbariumlaw14_DiskCrashes.j4 k x9 x10 x33 (((rdOf ByteArray.empty xz47000 x33).size : Int) != 64) xz47000 xz47001 xz86000 xz86001 xz94000 xz94001) else (columbariumlaw14_DiskCrashes.j4 k x9 x10 x33 true xz47000 xz47001 xz86000 xz86001 xz94000 xz94001)) else (none)) else (columbariumlaw14_DiskCrashes.j4 k x9 x10 x33 true xz47000 xz47001 xz86000 xz86001 xz94000 xz94001)) else (none)) else (none)) else (none)) else (some x9)
def columbariumlaw14_DiskCrashes.j4 : Nat → Bool → Int → Int → Bool → List ByteArray → List (S24) → List ByteArray → List (S24) → List ByteArray → List (S24) → Option (Bool)
 | 0, _, _, _, _, _, _, _, _, _, _ => none
 | k + 1, x9, x10, x33, x225, xz47000, xz47001, xz86000, xz86001, xz94000, xz94001 => if x225 = true then (none) else (columbariumlaw14_DiskCrashes.l2 k x9 x10 x33 0 xz47000 xz47001 xz86000 xz86001 xz94000 xz94001)
def columbariumlaw14_DiskCrashes.l2 : Nat → Bool → Int → Int → Int → List ByteArray → List (S24) → List ByteArray → List (S24) → List ByteArray → List (S24) → Option (Bool)
 | 0, _, _, _, _, _, _, _, _, _, _ => none
 | k + 1, x9, x10, x33, x34, xz47000, xz47001, xz86000, xz86001, xz94000, xz94001 => if x34 < 64 then (if 0 ≤ x33 then (if x33 < (xz94000.length : Int) then (if 0 ≤ x34 then (if x34 < ((rdOf ByteArray.empty xz94000 x33).size : Int) then (if x33 < (xz47000.length : Int) then (if x34 < ((rdOf ByteArray.empty xz47000 x33).size : Int) then (columbariumlaw14_DiskCrashes.l3 k x9 x10 x33 x34 ((bt (rdOf ByteArray.empty xz94000 x33) x34) == (bt (rdOf ByteArray.empty xz47000 x33) x34)) 0 xz47000 xz47001 xz86000 xz86001 xz94000 xz94001) else (none)) else (none)) else (none)) else (none)) else (none)) else (none)) else (columbariumlaw14_DiskCrashes.l1 k x9 x10 (wrap64 (x33 + 1)) xz47000 xz47001 xz86000 xz86001 xz94000 xz94001)
def columbariumlaw14_DiskCrashes.l3 : Nat → Bool → Int → Int → Int → Bool → Int → List ByteArray → List (S24) → List ByteArray → List (S24) → List ByteArray → List (S24) → Option (Bool)
 | 0, _, _, _, _, _, _, _, _, _, _, _, _ => none
 | k + 1, x9, x10, x33, x34, x35, x36, xz47000, xz47001, xz86000, xz86001, xz94000, xz94001 => if x36 < (xz47001.length : Int) then (if x35 = true then (columbariumlaw14_DiskCrashes.l3 k x9 x10 x33 x34 true (wrap64 (x36 + 1)) xz47000 xz47001 xz86000 xz86001 xz94000 xz94001) else (if 0 ≤ x36 then (if ((rd_T24 xz47001 x36).f1) = x33 then (if 0 ≤ x34 then (if x34 < (((rd_T24 xz47001 x36).f2).size : Int) then (if 0 ≤ x33 then (if x33 < (xz94000.length : Int) then (if x34 < ((rdOf ByteArray.empty xz94000 x33).size : Int) then (columbariumlaw14_DiskCrashes.l3 k x9 x10 x33 x34 ((bt ((rd_T24 xz47001 x36).f2) x34) == (bt (rdOf ByteArray.empty xz94000 x33) x34)) (wrap64 (x36 + 1)) xz47000 xz47001 xz86000 xz86001 xz94000 xz94001) else (none)) else (none)) else (none)) else (none)) else (none)) else (columbariumlaw14_DiskCrashes.l3 k x9 x10 x33 x34 false (wrap64 (x36 + 1)) xz47000 xz47001 xz86000 xz86001 xz94000 xz94001)) else (none))) else (if x35 = true then (columbariumlaw14_DiskCrashes.l2 k x9 x10 x33 (wrap64 (x34 + 1)) xz47000 xz47001 xz86000 xz86001 xz94000 xz94001) else (none))
end
def columbariumlaw14_DiskCrashes.f (k : Nat) (a0 : Int) (l1 : List (S67)) (l2 : List Int) (a3 : Int) : Option (Bool) := (columbariumlaw14_awake.f k).bind fun tz1 => ((columbariumlaw14_pick.f a0 6).bind fun tz2 => ((disk_New.f (wrap64 (1 + tz2))).bind fun btz3 => ((columbariumlaw14_Moves.f k l1 (wrap64 (1 + tz2))).bind fun tz11 => ((columbariumlaw14_pick.f a3 (wrap64 ((tz11.length : Int) + 1))).bind fun tz14 => (if 0 ≤ tz14 then (if tz14 ≤ (tz11.length : Int) then ((disk_Do.f btz3.1 btz3.2.1 (tz11.take (tz14 : Int).toNat)).bind fun btz19 => ((disk_Do.f btz19.1 btz19.2.1 (tz11.drop (tz14 : Int).toNat)).bind fun btz31 => ((disk_Do.f btz3.1 btz3.2.1 tz11).bind fun btz39 => (if btz3.2.2 = 0 then (if btz19.2.2 = 0 then (if btz31.2.2 = 0 then (if btz39.2.2 = 0 then ((columbariumref14_Same.f k btz31.1 btz31.2.1 btz39.1 btz39.2.1).bind fun tz47 => (columbariumlaw14_DiskCrashes.j0 k l2 tz1 (wrap64 (1 + tz2)) (!tz47) btz39.1 btz39.2.1)) else (columbariumlaw14_DiskCrashes.j0 k l2 tz1 (wrap64 (1 + tz2)) true btz39.1 btz39.2.1)) else (columbariumlaw14_DiskCrashes.j0 k l2 tz1 (wrap64 (1 + tz2)) true btz39.1 btz39.2.1)) else (columbariumlaw14_DiskCrashes.j0 k l2 tz1 (wrap64 (1 + tz2)) true btz39.1 btz39.2.1)) else (columbariumlaw14_DiskCrashes.j0 k l2 tz1 (wrap64 (1 + tz2)) true btz39.1 btz39.2.1))))) else (none)) else (none))))))
theorem columbariumlaw14_DiskCrashes.mono_l : ∀ k, (∀ y0 y1 y2 y3 y4 y5, LeO (columbariumlaw14_DiskCrashes.j0 k y0 y1 y2 y3 y4 y5) (columbariumlaw14_DiskCrashes.j0 (k + 1) y0 y1 y2 y3 y4 y5)) ∧ (∀ y0 y1 y2 y3 y4 y5 y6 y7, LeO (columbariumlaw14_DiskCrashes.l0 k y0 y1 y2 y3 y4 y5 y6 y7) (columbariumlaw14_DiskCrashes.l0 (k + 1) y0 y1 y2 y3 y4 y5 y6 y7)) ∧ (∀ y0 y1 y2 y3 y4 y5 y6 y7 y8, LeO (columbariumlaw14_DiskCrashes.j2 k y0 y1 y2 y3 y4 y5 y6 y7 y8) (columbariumlaw14_DiskCrashes.j2 (k + 1) y0 y1 y2 y3 y4 y5 y6 y7 y8)) ∧ (∀ y0 y1 y2 y3 y4 y5 y6 y7 y8, LeO (columbariumlaw14_DiskCrashes.l1 k y0 y1 y2 y3 y4 y5 y6 y7 y8) (columbariumlaw14_DiskCrashes.l1 (k + 1) y0 y1 y2 y3 y4 y5 y6 y7 y8)) ∧ (∀ y0 y1 y2 y3 y4 y5 y6 y7 y8 y9, LeO (columbariumlaw14_DiskCrashes.j4 k y0 y1 y2 y3 y4 y5 y6 y7 y8 y9) (columbariumlaw14_DiskCrashes.j4 (k + 1) y0 y1 y2 y3 y4 y5 y6 y7 y8 y9)) ∧ (∀ y0 y1 y2 y3 y4 y5 y6 y7 y8 y9, LeO (columbariumlaw14_DiskCrashes.l2 k y0 y1 y2 y3 y4 y5 y6 y7 y8 y9) (columbariumlaw14_DiskCrashes.l2 (k + 1) y0 y1 y2 y3 y4 y5 y6 y7 y8 y9)) ∧ (∀ y0 y1 y2 y3 y4 y5 y6 y7 y8 y9 y10 y11, LeO (columbariumlaw14_DiskCrashes.l3 k y0 y1 y2 y3 y4 y5 y6 y7 y8 y9 y10 y11) (columbariumlaw14_DiskCrashes.l3 (k + 1) y0 y1 y2 y3 y4 y5 y6 y7 y8 y9 y10 y11))
 | 0 => ⟨fun _ _ _ _ _ _ r h => by simp [columbariumlaw14_DiskCrashes.j0] at h, fun _ _ _ _ _ _ _ _ r h => by simp [columbariumlaw14_DiskCrashes.l0] at h, fun _ _ _ _ _ _ _ _ _ r h => by simp [columbariumlaw14_DiskCrashes.j2] at h, fun _ _ _ _ _ _ _ _ _ r h => by simp [columbariumlaw14_DiskCrashes.l1] at h, fun _ _ _ _ _ _ _ _ _ _ r h => by simp [columbariumlaw14_DiskCrashes.j4] at h, fun _ _ _ _ _ _ _ _ _ _ r h => by simp [columbariumlaw14_DiskCrashes.l2] at h, fun _ _ _ _ _ _ _ _ _ _ _ _ r h => by simp [columbariumlaw14_DiskCrashes.l3] at h⟩
 | k + 1 => by
  obtain ⟨ih0, ih1, ih2, ih3, ih4, ih5, ih6⟩ := columbariumlaw14_DiskCrashes.mono_l k
  refine ⟨?_, ?_, ?_, ?_, ?_, ?_, ?_⟩
  ·intro y0 y1 y2 y3 y4 y5
   unfold columbariumlaw14_DiskCrashes.j0
   repeat' first
   | (with_reducible exact ih0 _ _ _ _ _ _)
   | (with_reducible exact ih1 _ _ _ _ _ _ _ _)
   | (with_reducible exact ih2 _ _ _ _ _ _ _ _ _)
   | (with_reducible exact ih3 _ _ _ _ _ _ _ _ _)
   | (with_reducible exact ih4 _ _ _ _ _ _ _ _ _ _)
   | (with_reducible exact ih5 _ _ _ _ _ _ _ _ _ _)
   | (with_reducible exact ih6 _ _ _ _ _ _ _ _ _ _ _ _)
   | (with_reducible exact columbariumlaw14_Moves.mono _ _ _)
   | (with_reducible exact columbariumlaw14_awake.mono _)
   | (with_reducible exact columbariumref14_Same.mono _ _ _ _ _)
   | (with_reducible exact LeO.refl _)
   | (with_reducible exact LeO.none _)
   | (with_reducible refine LeO.ite ?_ ?_)
   | (with_reducible refine LeO.bind ?_ (fun _ => ?_))
   | exact ih0 _ _ _ _ _ _
   | exact ih1 _ _ _ _ _ _ _ _
   | exact ih2 _ _ _ _ _ _ _ _ _
   | exact ih3 _ _ _ _ _ _ _ _ _
   | exact ih4 _ _ _ _ _ _ _ _ _ _
   | exact ih5 _ _ _ _ _ _ _ _ _ _
   | exact ih6 _ _ _ _ _ _ _ _ _ _ _ _
   | exact columbariumlaw14_Moves.mono _ _ _
   | exact columbariumlaw14_awake.mono _
   | exact columbariumref14_Same.mono _ _ _ _ _
   | exact LeO.none _
   | refine LeO.ite ?_ ?_
   | refine LeO.bind ?_ (fun _ => ?_)
  ·intro y0 y1 y2 y3 y4 y5 y6 y7
   unfold columbariumlaw14_DiskCrashes.l0
   repeat' first
   | (with_reducible exact ih0 _ _ _ _ _ _)
   | (with_reducible exact ih1 _ _ _ _ _ _ _ _)
   | (with_reducible exact ih2 _ _ _ _ _ _ _ _ _)
   | (with_reducible exact ih3 _ _ _ _ _ _ _ _ _)
   | (with_reducible exact ih4 _ _ _ _ _ _ _ _ _ _)
   | (with_reducible exact ih5 _ _ _ _ _ _ _ _ _ _)
   | (with_reducible exact ih6 _ _ _ _ _ _ _ _ _ _ _ _)
   | (with_reducible exact columbariumlaw14_Moves.mono _ _ _)
   | (with_reducible exact columbariumlaw14_awake.mono _)
   | (with_reducible exact columbariumref14_Same.mono _ _ _ _ _)
   | (with_reducible exact LeO.refl _)
   | (with_reducible exact LeO.none _)
   | (with_reducible refine LeO.ite ?_ ?_)
   | (with_reducible refine LeO.bind ?_ (fun _ => ?_))
   | exact ih0 _ _ _ _ _ _
   | exact ih1 _ _ _ _ _ _ _ _
   | exact ih2 _ _ _ _ _ _ _ _ _
   | exact ih3 _ _ _ _ _ _ _ _ _
   | exact ih4 _ _ _ _ _ _ _ _ _ _
   | exact ih5 _ _ _ _ _ _ _ _ _ _
   | exact ih6 _ _ _ _ _ _ _ _ _ _ _ _
   | exact columbariumlaw14_Moves.mono _ _ _
   | exact columbariumlaw14_awake.mono _
   | exact columbariumref14_Same.mono _ _ _ _ _
   | exact LeO.none _
   | refine LeO.ite ?_ ?_
   | refine LeO.bind ?_ (fun _ => ?_)
  ·intro y0 y1 y2 y3 y4 y5 y6 y7 y8
   unfold columbariumlaw14_DiskCrashes.j2
   repeat' first
   | (with_reducible exact ih0 _ _ _ _ _ _)
   | (with_reducible exact ih1 _ _ _ _ _ _ _ _)
   | (with_reducible exact ih2 _ _ _ _ _ _ _ _ _)
   | (with_reducible exact ih3 _ _ _ _ _ _ _ _ _)
   | (with_reducible exact ih4 _ _ _ _ _ _ _ _ _ _)
   | (with_reducible exact ih5 _ _ _ _ _ _ _ _ _ _)
   | (with_reducible exact ih6 _ _ _ _ _ _ _ _ _ _ _ _)
   | (with_reducible exact columbariumlaw14_Moves.mono _ _ _)
   | (with_reducible exact columbariumlaw14_awake.mono _)
   | (with_reducible exact columbariumref14_Same.mono _ _ _ _ _)
   | (with_reducible exact LeO.refl _)
   | (with_reducible exact LeO.none _)
   | (with_reducible refine LeO.ite ?_ ?_)
   | (with_reducible refine LeO.bind ?_ (fun _ => ?_))
   | exact ih0 _ _ _ _ _ _
   | exact ih1 _ _ _ _ _ _ _ _
   | exact ih2 _ _ _ _ _ _ _ _ _
   | exact ih3 _ _ _ _ _ _ _ _ _
   | exact ih4 _ _ _ _ _ _ _ _ _ _
   | exact ih5 _ _ _ _ _ _ _ _ _ _
   | exact ih6 _ _ _ _ _ _ _ _ _ _ _ _
   | exact columbariumlaw14_Moves.mono _ _ _
   | exact columbariumlaw14_awake.mono _
   | exact columbariumref14_Same.mono _ _ _ _ _
   | exact LeO.none _
   | refine LeO.ite ?_ ?_
   | refine LeO.bind ?_ (fun _ => ?_)
  ·intro y0 y1 y2 y3 y4 y5 y6 y7 y8
   unfold columbariumlaw14_DiskCrashes.l1
   repeat' first
   | (with_reducible exact ih0 _ _ _ _ _ _)
   | (with_reducible exact ih1 _ _ _ _ _ _ _ _)
   | (with_reducible exact ih2 _ _ _ _ _ _ _ _ _)
   | (with_reducible exact ih3 _ _ _ _ _ _ _ _ _)
   | (with_reducible exact ih4 _ _ _ _ _ _ _ _ _ _)
   | (with_reducible exact ih5 _ _ _ _ _ _ _ _ _ _)
   | (with_reducible exact ih6 _ _ _ _ _ _ _ _ _ _ _ _)
   | (with_reducible exact columbariumlaw14_Moves.mono _ _ _)
   | (with_reducible exact columbariumlaw14_awake.mono _)
   | (with_reducible exact columbariumref14_Same.mono _ _ _ _ _)
   | (with_reducible exact LeO.refl _)
   | (with_reducible exact LeO.none _)
   | (with_reducible refine LeO.ite ?_ ?_)
   | (with_reducible refine LeO.bind ?_ (fun _ => ?_))
   | exact ih0 _ _ _ _ _ _
   | exact ih1 _ _ _ _ _ _ _ _
   | exact ih2 _ _ _ _ _ _ _ _ _
   | exact ih3 _ _ _ _ _ _ _ _ _
   | exact ih4 _ _ _ _ _ _ _ _ _ _
   | exact ih5 _ _ _ _ _ _ _ _ _ _
   | exact ih6 _ _ _ _ _ _ _ _ _ _ _ _
   | exact columbariumlaw14_Moves.mono _ _ _
   | exact columbariumlaw14_awake.mono _
   | exact columbariumref14_Same.mono _ _ _ _ _
   | exact LeO.none _
   | refine LeO.ite ?_ ?_
   | refine LeO.bind ?_ (fun _ => ?_)
  ·intro y0 y1 y2 y3 y4 y5 y6 y7 y8 y9
   unfold columbariumlaw14_DiskCrashes.j4
   repeat' first
   | (with_reducible exact ih0 _ _ _ _ _ _)
   | (with_reducible exact ih1 _ _ _ _ _ _ _ _)
   | (with_reducible exact ih2 _ _ _ _ _ _ _ _ _)
   | (with_reducible exact ih3 _ _ _ _ _ _ _ _ _)
   | (with_reducible exact ih4 _ _ _ _ _ _ _ _ _ _)
   | (with_reducible exact ih5 _ _ _ _ _ _ _ _ _ _)
   | (with_reducible exact ih6 _ _ _ _ _ _ _ _ _ _ _ _)
   | (with_reducible exact columbariumlaw14_Moves.mono _ _ _)
   | (with_reducible exact columbariumlaw14_awake.mono _)
   | (with_reducible exact columbariumref14_Same.mono _ _ _ _ _)
   | (with_reducible exact LeO.refl _)
   | (with_reducible exact LeO.none _)
   | (with_reducible refine LeO.ite ?_ ?_)
   | (with_reducible refine LeO.bind ?_ (fun _ => ?_))
   | exact ih0 _ _ _ _ _ _
   | exact ih1 _ _ _ _ _ _ _ _
   | exact ih2 _ _ _ _ _ _ _ _ _
   | exact ih3 _ _ _ _ _ _ _ _ _
   | exact ih4 _ _ _ _ _ _ _ _ _ _
   | exact ih5 _ _ _ _ _ _ _ _ _ _
   | exact ih6 _ _ _ _ _ _ _ _ _ _ _ _
   | exact columbariumlaw14_Moves.mono _ _ _
   | exact columbariumlaw14_awake.mono _
   | exact columbariumref14_Same.mono _ _ _ _ _
   | exact LeO.none _
   | refine LeO.ite ?_ ?_
   | refine LeO.bind ?_ (fun _ => ?_)
  ·intro y0 y1 y2 y3 y4 y5 y6 y7 y8 y9
   unfold columbariumlaw14_DiskCrashes.l2
   repeat' first
   | (with_reducible exact ih0 _ _ _ _ _ _)
   | (with_reducible exact ih1 _ _ _ _ _ _ _ _)
   | (with_reducible exact ih2 _ _ _ _ _ _ _ _ _)
   | (with_reducible exact ih3 _ _ _ _ _ _ _ _ _)
   | (with_reducible exact ih4 _ _ _ _ _ _ _ _ _ _)
   | (with_reducible exact ih5 _ _ _ _ _ _ _ _ _ _)
   | (with_reducible exact ih6 _ _ _ _ _ _ _ _ _ _ _ _)
   | (with_reducible exact columbariumlaw14_Moves.mono _ _ _)
   | (with_reducible exact columbariumlaw14_awake.mono _)
   | (with_reducible exact columbariumref14_Same.mono _ _ _ _ _)
   | (with_reducible exact LeO.refl _)
   | (with_reducible exact LeO.none _)
   | (with_reducible refine LeO.ite ?_ ?_)
   | (with_reducible refine LeO.bind ?_ (fun _ => ?_))
   | exact ih0 _ _ _ _ _ _
   | exact ih1 _ _ _ _ _ _ _ _
   | exact ih2 _ _ _ _ _ _ _ _ _
   | exact ih3 _ _ _ _ _ _ _ _ _
   | exact ih4 _ _ _ _ _ _ _ _ _ _
   | exact ih5 _ _ _ _ _ _ _ _ _ _
   | exact ih6 _ _ _ _ _ _ _ _ _ _ _ _
   | exact columbariumlaw14_Moves.mono _ _ _
   | exact columbariumlaw14_awake.mono _
   | exact columbariumref14_Same.mono _ _ _ _ _
   | exact LeO.none _
   | refine LeO.ite ?_ ?_
   | refine LeO.bind ?_ (fun _ => ?_)
  ·intro y0 y1 y2 y3 y4 y5 y6 y7 y8 y9 y10 y11
   unfold columbariumlaw14_DiskCrashes.l3
   repeat' first
   | (with_reducible exact ih0 _ _ _ _ _ _)
   | (with_reducible exact ih1 _ _ _ _ _ _ _ _)
   | (with_reducible exact ih2 _ _ _ _ _ _ _ _ _)
   | (with_reducible exact ih3 _ _ _ _ _ _ _ _ _)
   | (with_reducible exact ih4 _ _ _ _ _ _ _ _ _ _)
   | (with_reducible exact ih5 _ _ _ _ _ _ _ _ _ _)
   | (with_reducible exact ih6 _ _ _ _ _ _ _ _ _ _ _ _)
   | (with_reducible exact columbariumlaw14_Moves.mono _ _ _)
   | (with_reducible exact columbariumlaw14_awake.mono _)
   | (with_reducible exact columbariumref14_Same.mono _ _ _ _ _)
   | (with_reducible exact LeO.refl _)
   | (with_reducible exact LeO.none _)
   | (with_reducible refine LeO.ite ?_ ?_)
   | (with_reducible refine LeO.bind ?_ (fun _ => ?_))
   | exact ih0 _ _ _ _ _ _
   | exact ih1 _ _ _ _ _ _ _ _
   | exact ih2 _ _ _ _ _ _ _ _ _
   | exact ih3 _ _ _ _ _ _ _ _ _
   | exact ih4 _ _ _ _ _ _ _ _ _ _
   | exact ih5 _ _ _ _ _ _ _ _ _ _
   | exact ih6 _ _ _ _ _ _ _ _ _ _ _ _
   | exact columbariumlaw14_Moves.mono _ _ _
   | exact columbariumlaw14_awake.mono _
   | exact columbariumref14_Same.mono _ _ _ _ _
   | exact LeO.none _
   | refine LeO.ite ?_ ?_
   | refine LeO.bind ?_ (fun _ => ?_)
theorem columbariumlaw14_DiskCrashes.mono : ∀ a0 a1 a2 a3 k, LeO (columbariumlaw14_DiskCrashes.f k a0 a1 a2 a3) (columbariumlaw14_DiskCrashes.f (k + 1) a0 a1 a2 a3) := by
 intro a0 a1 a2 a3 k
 obtain ⟨ih0, ih1, ih2, ih3, ih4, ih5, ih6⟩ := columbariumlaw14_DiskCrashes.mono_l k
 unfold columbariumlaw14_DiskCrashes.f
 repeat' first
  | (with_reducible exact ih0 _ _ _ _ _ _)
  | (with_reducible exact ih1 _ _ _ _ _ _ _ _)
  | (with_reducible exact ih2 _ _ _ _ _ _ _ _ _)
  | (with_reducible exact ih3 _ _ _ _ _ _ _ _ _)
  | (with_reducible exact ih4 _ _ _ _ _ _ _ _ _ _)
  | (with_reducible exact ih5 _ _ _ _ _ _ _ _ _ _)
  | (with_reducible exact ih6 _ _ _ _ _ _ _ _ _ _ _ _)
  | (with_reducible exact columbariumlaw14_Moves.mono _ _ _)
  | (with_reducible exact columbariumlaw14_awake.mono _)
  | (with_reducible exact columbariumref14_Same.mono _ _ _ _ _)
  | (with_reducible exact LeO.refl _)
  | (with_reducible exact LeO.none _)
  | (with_reducible refine LeO.ite ?_ ?_)
  | (with_reducible refine LeO.bind ?_ (fun _ => ?_))
  | exact ih0 _ _ _ _ _ _
  | exact ih1 _ _ _ _ _ _ _ _
  | exact ih2 _ _ _ _ _ _ _ _ _
  | exact ih3 _ _ _ _ _ _ _ _ _
  | exact ih4 _ _ _ _ _ _ _ _ _ _
  | exact ih5 _ _ _ _ _ _ _ _ _ _
  | exact ih6 _ _ _ _ _ _ _ _ _ _ _ _
  | exact columbariumlaw14_Moves.mono _ _ _
  | exact columbariumlaw14_awake.mono _
  | exact columbariumref14_Same.mono _ _ _ _ _
  | exact LeO.none _
  | refine LeO.ite ?_ ?_
  | refine LeO.bind ?_ (fun _ => ?_)
def columbariumlaw14_DiskCrashes.T6 : Bool × List (List Nat × List Nat) := (true, [([], []), ([], []), ([], []), ([1, 2], [1, 2]), ([0, 3], [0, 3]), ([4], [4]), ([5], [5]), ([5], [5]), ([], []), ([8, 6, 4, 0, 1, 2, 3, 4, 5, 6, 8], [6, 8]), ([7, 9, 0, 1, 2, 3, 4, 5, 6, 7, 8, 9], [7])])
def columbariumlaw14_DiskCrashes.B6 : List Nat := [0, 0, 0, 6, 15, 31, 63, 63, 0, 383, 1023]
theorem columbariumlaw14_DiskCrashes.tab6 : rtab .any (opsOf Try.f5 6) = columbariumlaw14_DiskCrashes.T6 := by kernel_rfl
theorem columbariumlaw14_DiskCrashes.bits6 : waitsOk columbariumlaw14_DiskCrashes.T6.2 columbariumlaw14_DiskCrashes.B6 = true := by kernel_rfl
def columbariumlaw14_DiskCrashes.T7 : Bool × List (List Nat × List Nat) := (true, [([], []), ([], []), ([], []), ([1, 2], [1, 2]), ([0, 3], [0, 3]), ([4], [4]), ([5], [5]), ([5], [5]), ([], []), ([8, 6, 4, 0, 1, 2, 3, 4, 5, 6, 8], [6, 8]), ([7, 9, 0, 1, 2, 3, 4, 5, 6, 7, 8, 9], [7])])
def columbariumlaw14_DiskCrashes.B7 : List Nat := [0, 0, 0, 6, 15, 31, 63, 63, 0, 383, 1023]
theorem columbariumlaw14_DiskCrashes.tab7 : rtab .any (opsOf Try.f5 7) = columbariumlaw14_DiskCrashes.T7 := by kernel_rfl
theorem columbariumlaw14_DiskCrashes.bits7 : waitsOk columbariumlaw14_DiskCrashes.T7.2 columbariumlaw14_DiskCrashes.B7 = true := by kernel_rfl
def columbariumlaw14_DiskCrashes.T30 : Bool × List (List Nat × List Nat) := (true, [([], []), ([0], [0]), ([], []), ([1, 2], [1, 2]), ([3], [3]), ([], []), ([5], [5]), ([], []), ([6, 7], [6, 7]), ([8], [8]), ([4, 9], [4, 9]), ([10], [10]), ([11], [11]), ([12, 11], [11, 12]), ([11], [11]), ([13, 14, 11], [11, 13, 14]), ([15, 11], [11, 15]), ([16, 11], [11, 16]), ([17, 11], [11, 17]), ([11, 18], [11, 18]), ([19, 11], [19]), ([20], [20]), ([21, 20], [20, 21]), ([20], [20]), ([22, 23, 20], [20, 22, 23]), ([24, 20], [20, 24]), ([25, 20], [20, 25]), ([26, 20], [20, 26]), ([20, 27], [20, 27])])
def columbariumlaw14_DiskCrashes.B30 : List Nat := [0, 1, 0, 7, 15, 0, 32, 0, 224, 480, 1023, 2047, 4095, 8191, 4095, 32767, 65535, 131071, 262143, 524287, 1048575, 2097151, 4194303, 2097151, 16777215, 33554431, 67108863, 134217727, 268435455]
theorem columbariumlaw14_DiskCrashes.tab30 : rtab .any (opsOf Try.f5 30) = columbariumlaw14_DiskCrashes.T30 := by kernel_rfl
theorem columbariumlaw14_DiskCrashes.bits30 : waitsOk columbariumlaw14_DiskCrashes.T30.2 columbariumlaw14_DiskCrashes.B30 = true := by kernel_rfl
def columbariumlaw14_DiskCrashes.T35 : Bool × List (List Nat × List Nat) := (true, [([], []), ([0], [0]), ([], []), ([1, 2], [1, 2]), ([3], [3]), ([], []), ([4, 5], [4, 5]), ([], []), ([7], [7]), ([], []), ([8, 9], [8, 9]), ([10], [10]), ([], []), ([11, 12], [11, 12]), ([6, 13], [6, 13]), ([14, 0, 1, 2, 3, 4, 5, 6, 7, 8, 9, 10, 11, 12, 13, 14], [14])])
def columbariumlaw14_DiskCrashes.B35 : List Nat := [0, 1, 0, 7, 15, 0, 63, 0, 128, 0, 896, 1920, 0, 8064, 16383, 32767]
theorem columbariumlaw14_DiskCrashes.tab35 : rtab .any (opsOf Try.f5 35) = columbariumlaw14_DiskCrashes.T35 := by kernel_rfl
theorem columbariumlaw14_DiskCrashes.bits35 : waitsOk columbariumlaw14_DiskCrashes.T35.2 columbariumlaw14_DiskCrashes.B35 = true := by kernel_rfl
def columbariumlaw14_DiskCrashes.T39 : Bool × List (List Nat × List Nat) := (true, [([], []), ([0], [0]), ([1], [1]), ([2, 1], [1, 2]), ([1], [1]), ([3, 4, 1], [1, 3, 4]), ([5, 1], [1, 5]), ([6, 1], [1, 6]), ([1], [1]), ([7, 8, 1], [1, 7, 8]), ([9, 1, 1], [1, 9]), ([10], [10]), ([11, 10], [10, 11]), ([10], [10]), ([12, 13, 10], [10, 12, 13]), ([14, 10], [10, 14]), ([15, 10], [10, 15]), ([10], [10]), ([16, 17, 10], [10, 16, 17]), ([10], [10]), ([19, 10], [10, 19]), ([10], [10]), ([20, 21, 10], [10, 20, 21]), ([22, 10], [10, 22]), ([10], [10]), ([23, 24, 10], [10, 23, 24]), ([18, 25, 10], [10, 18, 25]), ([10, 26, 1], [1, 10, 26]), ([1, 27], [1, 27]), ([28, 10, 0, 1, 2, 3, 4, 5, 6, 7, 8, 9, 10, 11, 12, 13, 14, 15, 16, 17, 18, 19, 20, 21, 22, 23, 24, 25, 26, 27, 28], [0, 28])])
def columbariumlaw14_DiskCrashes.B39 : List Nat := [0, 1, 3, 7, 3, 31, 63, 127, 3, 511, 1023, 2047, 4095, 2047, 16383, 32767, 65535, 2047, 262143, 2047, 526335, 2047, 3672063, 7866367, 2047, 33032191, 67108863, 134217727, 268435455, 536870911]
theorem columbariumlaw14_DiskCrashes.tab39 : rtab .any (opsOf Try.f5 39) = columbariumlaw14_DiskCrashes.T39 := by kernel_rfl
theorem columbariumlaw14_DiskCrashes.bits39 : waitsOk columbariumlaw14_DiskCrashes.T39.2 columbariumlaw14_DiskCrashes.B39 = true := by kernel_rfl
end Go.Proofs.Ytcfinlmocgbnbaa.Pr
