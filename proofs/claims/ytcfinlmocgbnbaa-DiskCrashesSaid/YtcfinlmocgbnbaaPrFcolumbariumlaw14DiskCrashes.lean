-- Written by wip/tools/xprint.py, a patched run of the kit's print: not typed by hand.
import Derived.Test.YtcfinlmocgbnbaaPrFcolumbariumlaw14DiskCrashesD
import Derived.Test.YtcfinlmocgbnbaaXSr
import Derived.Test.YtcfinlmocgbnbaaPr0
import Derived.Test.YtcfinlmocgbnbaaPrFcolumbariumlaw14Moves
import Derived.Test.YtcfinlmocgbnbaaPrFcolumbariumlaw14awake
import Derived.Test.YtcfinlmocgbnbaaPrFcolumbariumlaw14pick
import Derived.Test.YtcfinlmocgbnbaaPrFcolumbariumref14Same
import Derived.Test.YtcfinlmocgbnbaaXCrash
import Derived.Test.YtcfinlmocgbnbaaXDo
import Derived.Test.YtcfinlmocgbnbaaXNew
namespace Go.Proofs.Ytcfinlmocgbnbaa.Pr
open Go.Proofs.Ytcfinlmocgbnbaa.Sq Go.RowKit Go.Proofs.YtcfinlmocgbnbaaW.PrintWords Go.Proofs.YtcfinlmocgbnbaaW.PrintLast Go.Proofs.YtcfinlmocgbnbaaW.PrintMore
attribute [local go_sem] max2_int min2_int max_two min_two max_three min_three max_four min_four   -- for this text's walks alone
set_option linter.unusedVariables false
set_option linter.unusedSimpArgs false

set_option maxHeartbeats 8000000 in
set_option maxRecDepth 100000 in
theorem columbariumlaw14_DiskCrashes.calls (k : Nat) (a0 : Int) (A1 : Option Addr) (c1 : Nat) (l1 : List (S67)) (A2 : Option Addr) (c2 : Nat) (l2 : List Int) (a3 : Int) (r : Bool) (w : World) (hr1 : Kd.C k67 w A1 l1.length l1) (hc1 : l1.length ≤ c1) (hr2 : Kd.C (Kd.int .i64) w A2 l2.length l2) (hc2 : l2.length ≤ c2) (h : columbariumlaw14_DiskCrashes.f k a0 l1 l2 a3 = some r) :
  Calls Try.prog 5 #[.int .i64 a0, .slice A1 l1.length c1, .slice A2 l2.length c2, .int .i64 a3] w fun e w' => e = .returned (.bool r) ∧ Below w.heap.size w w' := by
 have hu30 := Try.underlying30
 have hu24 := Try.underlying24
 have HR1 := am hr1
 have HC1 := am hc1
 clear hr1 hc1
 have HR2 := am hr2
 have HC2 := am hc2
 clear hr2 hc2
 have HB := am (Below.refl w.heap.size w)
 have H : ((columbariumlaw14_awake.f k).bind fun tz1 => ((columbariumlaw14_pick.f a0 6).bind fun tz2 => ((disk_New.f (wrap64 (1 + tz2))).bind fun btz3 => ((columbariumlaw14_Moves.f k l1 (wrap64 (1 + tz2))).bind fun tz11 => ((columbariumlaw14_pick.f a3 (wrap64 ((tz11.length : Int) + 1))).bind fun tz14 => (if 0 ≤ tz14 then (if tz14 ≤ (tz11.length : Int) then ((disk_Do.f btz3.1 btz3.2.1 (tz11.take (tz14 : Int).toNat)).bind fun btz19 => ((disk_Do.f btz19.1 btz19.2.1 (tz11.drop (tz14 : Int).toNat)).bind fun btz31 => ((disk_Do.f btz3.1 btz3.2.1 tz11).bind fun btz39 => (if btz3.2.2 = 0 then (if btz19.2.2 = 0 then (if btz31.2.2 = 0 then (if btz39.2.2 = 0 then ((columbariumref14_Same.f k btz31.1 btz31.2.1 btz39.1 btz39.2.1).bind fun tz47 => (columbariumlaw14_DiskCrashes.j0 k l2 tz1 (wrap64 (1 + tz2)) (!tz47) btz39.1 btz39.2.1)) else (columbariumlaw14_DiskCrashes.j0 k l2 tz1 (wrap64 (1 + tz2)) true btz39.1 btz39.2.1)) else (columbariumlaw14_DiskCrashes.j0 k l2 tz1 (wrap64 (1 + tz2)) true btz39.1 btz39.2.1)) else (columbariumlaw14_DiskCrashes.j0 k l2 tz1 (wrap64 (1 + tz2)) true btz39.1 btz39.2.1)) else (columbariumlaw14_DiskCrashes.j0 k l2 tz1 (wrap64 (1 + tz2)) true btz39.1 btz39.2.1))))) else (none)) else (none))))))) = some r := h
 clear h
 replace H := ob_ H
 obtain ⟨tz1, A50, H⟩ := H
 replace H : ((columbariumlaw14_pick.f a0 6).bind fun tz2 => ((disk_New.f (wrap64 (1 + tz2))).bind fun btz3 => ((columbariumlaw14_Moves.f k l1 (wrap64 (1 + tz2))).bind fun tz11 => ((columbariumlaw14_pick.f a3 (wrap64 ((tz11.length : Int) + 1))).bind fun tz14 => (if 0 ≤ tz14 then (if tz14 ≤ (tz11.length : Int) then ((disk_Do.f btz3.1 btz3.2.1 (tz11.take (tz14 : Int).toNat)).bind fun btz19 => ((disk_Do.f btz19.1 btz19.2.1 (tz11.drop (tz14 : Int).toNat)).bind fun btz31 => ((disk_Do.f btz3.1 btz3.2.1 tz11).bind fun btz39 => (if btz3.2.2 = 0 then (if btz19.2.2 = 0 then (if btz31.2.2 = 0 then (if btz39.2.2 = 0 then ((columbariumref14_Same.f k btz31.1 btz31.2.1 btz39.1 btz39.2.1).bind fun tz47 => (columbariumlaw14_DiskCrashes.j0 k l2 tz1 (wrap64 (1 + tz2)) (!tz47) btz39.1 btz39.2.1)) else (columbariumlaw14_DiskCrashes.j0 k l2 tz1 (wrap64 (1 + tz2)) true btz39.1 btz39.2.1)) else (columbariumlaw14_DiskCrashes.j0 k l2 tz1 (wrap64 (1 + tz2)) true btz39.1 btz39.2.1)) else (columbariumlaw14_DiskCrashes.j0 k l2 tz1 (wrap64 (1 + tz2)) true btz39.1 btz39.2.1)) else (columbariumlaw14_DiskCrashes.j0 k l2 tz1 (wrap64 (1 + tz2)) true btz39.1 btz39.2.1))))) else (none)) else (none)))))) = some r := H
 have A5 := Aside0.mk A50
 clear A50
 replace H := ob_ H
 obtain ⟨tz2, A60, H⟩ := H
 replace H : ((disk_New.f (wrap64 (1 + tz2))).bind fun btz3 => ((columbariumlaw14_Moves.f k l1 (wrap64 (1 + tz2))).bind fun tz11 => ((columbariumlaw14_pick.f a3 (wrap64 ((tz11.length : Int) + 1))).bind fun tz14 => (if 0 ≤ tz14 then (if tz14 ≤ (tz11.length : Int) then ((disk_Do.f btz3.1 btz3.2.1 (tz11.take (tz14 : Int).toNat)).bind fun btz19 => ((disk_Do.f btz19.1 btz19.2.1 (tz11.drop (tz14 : Int).toNat)).bind fun btz31 => ((disk_Do.f btz3.1 btz3.2.1 tz11).bind fun btz39 => (if btz3.2.2 = 0 then (if btz19.2.2 = 0 then (if btz31.2.2 = 0 then (if btz39.2.2 = 0 then ((columbariumref14_Same.f k btz31.1 btz31.2.1 btz39.1 btz39.2.1).bind fun tz47 => (columbariumlaw14_DiskCrashes.j0 k l2 tz1 (wrap64 (1 + tz2)) (!tz47) btz39.1 btz39.2.1)) else (columbariumlaw14_DiskCrashes.j0 k l2 tz1 (wrap64 (1 + tz2)) true btz39.1 btz39.2.1)) else (columbariumlaw14_DiskCrashes.j0 k l2 tz1 (wrap64 (1 + tz2)) true btz39.1 btz39.2.1)) else (columbariumlaw14_DiskCrashes.j0 k l2 tz1 (wrap64 (1 + tz2)) true btz39.1 btz39.2.1)) else (columbariumlaw14_DiskCrashes.j0 k l2 tz1 (wrap64 (1 + tz2)) true btz39.1 btz39.2.1))))) else (none)) else (none))))) = some r := H
 have A6 := Aside0.mk A60
 clear A60
 replace H := ob_ H
 obtain ⟨⟨tz3, tz6, tz9⟩, A70, H⟩ := H
 replace H : ((columbariumlaw14_Moves.f k l1 (wrap64 (1 + tz2))).bind fun tz11 => ((columbariumlaw14_pick.f a3 (wrap64 ((tz11.length : Int) + 1))).bind fun tz14 => (if 0 ≤ tz14 then (if tz14 ≤ (tz11.length : Int) then ((disk_Do.f tz3 tz6 (tz11.take (tz14 : Int).toNat)).bind fun btz19 => ((disk_Do.f btz19.1 btz19.2.1 (tz11.drop (tz14 : Int).toNat)).bind fun btz31 => ((disk_Do.f tz3 tz6 tz11).bind fun btz39 => (if tz9 = 0 then (if btz19.2.2 = 0 then (if btz31.2.2 = 0 then (if btz39.2.2 = 0 then ((columbariumref14_Same.f k btz31.1 btz31.2.1 btz39.1 btz39.2.1).bind fun tz47 => (columbariumlaw14_DiskCrashes.j0 k l2 tz1 (wrap64 (1 + tz2)) (!tz47) btz39.1 btz39.2.1)) else (columbariumlaw14_DiskCrashes.j0 k l2 tz1 (wrap64 (1 + tz2)) true btz39.1 btz39.2.1)) else (columbariumlaw14_DiskCrashes.j0 k l2 tz1 (wrap64 (1 + tz2)) true btz39.1 btz39.2.1)) else (columbariumlaw14_DiskCrashes.j0 k l2 tz1 (wrap64 (1 + tz2)) true btz39.1 btz39.2.1)) else (columbariumlaw14_DiskCrashes.j0 k l2 tz1 (wrap64 (1 + tz2)) true btz39.1 btz39.2.1))))) else (none)) else (none)))) = some r := H
 have A7 := Aside0.mk A70
 clear A70
 replace H := ob_ H
 obtain ⟨tz11, A80, H⟩ := H
 replace H : ((columbariumlaw14_pick.f a3 (wrap64 ((tz11.length : Int) + 1))).bind fun tz14 => (if 0 ≤ tz14 then (if tz14 ≤ (tz11.length : Int) then ((disk_Do.f tz3 tz6 (tz11.take (tz14 : Int).toNat)).bind fun btz19 => ((disk_Do.f btz19.1 btz19.2.1 (tz11.drop (tz14 : Int).toNat)).bind fun btz31 => ((disk_Do.f tz3 tz6 tz11).bind fun btz39 => (if tz9 = 0 then (if btz19.2.2 = 0 then (if btz31.2.2 = 0 then (if btz39.2.2 = 0 then ((columbariumref14_Same.f k btz31.1 btz31.2.1 btz39.1 btz39.2.1).bind fun tz47 => (columbariumlaw14_DiskCrashes.j0 k l2 tz1 (wrap64 (1 + tz2)) (!tz47) btz39.1 btz39.2.1)) else (columbariumlaw14_DiskCrashes.j0 k l2 tz1 (wrap64 (1 + tz2)) true btz39.1 btz39.2.1)) else (columbariumlaw14_DiskCrashes.j0 k l2 tz1 (wrap64 (1 + tz2)) true btz39.1 btz39.2.1)) else (columbariumlaw14_DiskCrashes.j0 k l2 tz1 (wrap64 (1 + tz2)) true btz39.1 btz39.2.1)) else (columbariumlaw14_DiskCrashes.j0 k l2 tz1 (wrap64 (1 + tz2)) true btz39.1 btz39.2.1))))) else (none)) else (none))) = some r := H
 have A8 := Aside0.mk A80
 clear A80
 replace H := ob_ H
 obtain ⟨tz14, A90, H⟩ := H
 replace H : (if 0 ≤ tz14 then (if tz14 ≤ (tz11.length : Int) then ((disk_Do.f tz3 tz6 (tz11.take (tz14 : Int).toNat)).bind fun btz19 => ((disk_Do.f btz19.1 btz19.2.1 (tz11.drop (tz14 : Int).toNat)).bind fun btz31 => ((disk_Do.f tz3 tz6 tz11).bind fun btz39 => (if tz9 = 0 then (if btz19.2.2 = 0 then (if btz31.2.2 = 0 then (if btz39.2.2 = 0 then ((columbariumref14_Same.f k btz31.1 btz31.2.1 btz39.1 btz39.2.1).bind fun tz47 => (columbariumlaw14_DiskCrashes.j0 k l2 tz1 (wrap64 (1 + tz2)) (!tz47) btz39.1 btz39.2.1)) else (columbariumlaw14_DiskCrashes.j0 k l2 tz1 (wrap64 (1 + tz2)) true btz39.1 btz39.2.1)) else (columbariumlaw14_DiskCrashes.j0 k l2 tz1 (wrap64 (1 + tz2)) true btz39.1 btz39.2.1)) else (columbariumlaw14_DiskCrashes.j0 k l2 tz1 (wrap64 (1 + tz2)) true btz39.1 btz39.2.1)) else (columbariumlaw14_DiskCrashes.j0 k l2 tz1 (wrap64 (1 + tz2)) true btz39.1 btz39.2.1))))) else (none)) else (none)) = some r := H
 have A9 := Aside0.mk A90
 clear A90
 by_cases c10 : 0 ≤ tz14
 rotate_left
 ·rw [if_neg c10] at H
  exact absurd H (by simp)
 rw [if_pos c10] at H
 have c10b0 := eq_true c10
 have c10b1 : decide (0 ≤ tz14) = true := decide_eq_true c10
 clear c10
 by_cases c11 : tz14 ≤ (tz11.length : Int)
 rotate_left
 ·rw [if_neg c11] at H
  exact absurd H (by simp)
 rw [if_pos c11] at H
 have c11b0 := eq_true c11
 have c11b1 : decide (tz14 ≤ (tz11.length : Int)) = true := decide_eq_true c11
 clear c11
 obtain ⟨yz15, hyz15⟩ : ∃ y_ : List (S24), y_ = (tz11.take (tz14 : Int).toNat) := ⟨_, rfl⟩
 replace H : ((disk_Do.f tz3 tz6 yz15).bind fun btz19 => ((disk_Do.f btz19.1 btz19.2.1 (tz11.drop (tz14 : Int).toNat)).bind fun btz31 => ((disk_Do.f tz3 tz6 tz11).bind fun btz39 => (if tz9 = 0 then (if btz19.2.2 = 0 then (if btz31.2.2 = 0 then (if btz39.2.2 = 0 then ((columbariumref14_Same.f k btz31.1 btz31.2.1 btz39.1 btz39.2.1).bind fun tz47 => (columbariumlaw14_DiskCrashes.j0 k l2 tz1 (wrap64 (1 + tz2)) (!tz47) btz39.1 btz39.2.1)) else (columbariumlaw14_DiskCrashes.j0 k l2 tz1 (wrap64 (1 + tz2)) true btz39.1 btz39.2.1)) else (columbariumlaw14_DiskCrashes.j0 k l2 tz1 (wrap64 (1 + tz2)) true btz39.1 btz39.2.1)) else (columbariumlaw14_DiskCrashes.j0 k l2 tz1 (wrap64 (1 + tz2)) true btz39.1 btz39.2.1)) else (columbariumlaw14_DiskCrashes.j0 k l2 tz1 (wrap64 (1 + tz2)) true btz39.1 btz39.2.1))))) = some r := by first | (rw [hyz15]; with_reducible exact H) | (have H2_ := (Option.bind_some _ _).symm.trans H; rw [hyz15]; with_reducible exact H2_) | (have H2_ := (Option.bind_some _ _).symm.trans H; with_reducible exact H2_) | with_reducible exact H | (rw [hyz15]; exact H) | exact H
 have Nyz15 := am hyz15
 clear hyz15
 replace H := ob_ H
 obtain ⟨⟨tz19, tz22, tz25⟩, A120, H⟩ := H
 replace H : ((disk_Do.f tz19 tz22 (tz11.drop (tz14 : Int).toNat)).bind fun btz31 => ((disk_Do.f tz3 tz6 tz11).bind fun btz39 => (if tz9 = 0 then (if tz25 = 0 then (if btz31.2.2 = 0 then (if btz39.2.2 = 0 then ((columbariumref14_Same.f k btz31.1 btz31.2.1 btz39.1 btz39.2.1).bind fun tz47 => (columbariumlaw14_DiskCrashes.j0 k l2 tz1 (wrap64 (1 + tz2)) (!tz47) btz39.1 btz39.2.1)) else (columbariumlaw14_DiskCrashes.j0 k l2 tz1 (wrap64 (1 + tz2)) true btz39.1 btz39.2.1)) else (columbariumlaw14_DiskCrashes.j0 k l2 tz1 (wrap64 (1 + tz2)) true btz39.1 btz39.2.1)) else (columbariumlaw14_DiskCrashes.j0 k l2 tz1 (wrap64 (1 + tz2)) true btz39.1 btz39.2.1)) else (columbariumlaw14_DiskCrashes.j0 k l2 tz1 (wrap64 (1 + tz2)) true btz39.1 btz39.2.1)))) = some r := H
 have A12 := Aside0.mk A120
 clear A120
 have c13b0 := eq_true (of_decide_eq_true (by first | (with_reducible assumption) | assumption) : 0 ≤ tz14)
 have c14b0 := eq_true (of_decide_eq_true (by first | (with_reducible assumption) | assumption) : tz14 ≤ (tz11.length : Int))
 obtain ⟨yz27, hyz27⟩ : ∃ y_ : List (S24), y_ = (tz11.drop (tz14 : Int).toNat) := ⟨_, rfl⟩
 replace H : ((disk_Do.f tz19 tz22 yz27).bind fun btz31 => ((disk_Do.f tz3 tz6 tz11).bind fun btz39 => (if tz9 = 0 then (if tz25 = 0 then (if btz31.2.2 = 0 then (if btz39.2.2 = 0 then ((columbariumref14_Same.f k btz31.1 btz31.2.1 btz39.1 btz39.2.1).bind fun tz47 => (columbariumlaw14_DiskCrashes.j0 k l2 tz1 (wrap64 (1 + tz2)) (!tz47) btz39.1 btz39.2.1)) else (columbariumlaw14_DiskCrashes.j0 k l2 tz1 (wrap64 (1 + tz2)) true btz39.1 btz39.2.1)) else (columbariumlaw14_DiskCrashes.j0 k l2 tz1 (wrap64 (1 + tz2)) true btz39.1 btz39.2.1)) else (columbariumlaw14_DiskCrashes.j0 k l2 tz1 (wrap64 (1 + tz2)) true btz39.1 btz39.2.1)) else (columbariumlaw14_DiskCrashes.j0 k l2 tz1 (wrap64 (1 + tz2)) true btz39.1 btz39.2.1)))) = some r := by first | (rw [hyz27]; with_reducible exact H) | (have H2_ := (Option.bind_some _ _).symm.trans H; rw [hyz27]; with_reducible exact H2_) | (have H2_ := (Option.bind_some _ _).symm.trans H; with_reducible exact H2_) | with_reducible exact H | (rw [hyz27]; exact H) | exact H
 have Nyz27 := am hyz27
 clear hyz27
 replace H := ob_ H
 obtain ⟨⟨tz31, tz34, tz37⟩, A150, H⟩ := H
 replace H : ((disk_Do.f tz3 tz6 tz11).bind fun btz39 => (if tz9 = 0 then (if tz25 = 0 then (if tz37 = 0 then (if btz39.2.2 = 0 then ((columbariumref14_Same.f k tz31 tz34 btz39.1 btz39.2.1).bind fun tz47 => (columbariumlaw14_DiskCrashes.j0 k l2 tz1 (wrap64 (1 + tz2)) (!tz47) btz39.1 btz39.2.1)) else (columbariumlaw14_DiskCrashes.j0 k l2 tz1 (wrap64 (1 + tz2)) true btz39.1 btz39.2.1)) else (columbariumlaw14_DiskCrashes.j0 k l2 tz1 (wrap64 (1 + tz2)) true btz39.1 btz39.2.1)) else (columbariumlaw14_DiskCrashes.j0 k l2 tz1 (wrap64 (1 + tz2)) true btz39.1 btz39.2.1)) else (columbariumlaw14_DiskCrashes.j0 k l2 tz1 (wrap64 (1 + tz2)) true btz39.1 btz39.2.1))) = some r := H
 have A15 := Aside0.mk A150
 clear A150
 replace H := ob_ H
 obtain ⟨⟨tz39, tz42, tz45⟩, A160, H⟩ := H
 replace H : (if tz9 = 0 then (if tz25 = 0 then (if tz37 = 0 then (if tz45 = 0 then ((columbariumref14_Same.f k tz31 tz34 tz39 tz42).bind fun tz47 => (columbariumlaw14_DiskCrashes.j0 k l2 tz1 (wrap64 (1 + tz2)) (!tz47) tz39 tz42)) else (columbariumlaw14_DiskCrashes.j0 k l2 tz1 (wrap64 (1 + tz2)) true tz39 tz42)) else (columbariumlaw14_DiskCrashes.j0 k l2 tz1 (wrap64 (1 + tz2)) true tz39 tz42)) else (columbariumlaw14_DiskCrashes.j0 k l2 tz1 (wrap64 (1 + tz2)) true tz39 tz42)) else (columbariumlaw14_DiskCrashes.j0 k l2 tz1 (wrap64 (1 + tz2)) true tz39 tz42)) = some r := H
 have A16 := Aside0.mk A160
 clear A160
 have HC17 := am H
 clear H
 go_enter Try.func5, Try.ntmps5
 try go_wp2_with (first | ((with_reducible refine gate_callee (f := 12) rfl ?_); refine goesL_ (some 37) rfl rfl Try.func12 (by kernel_rfl) rfl #[] rfl (by (try simp only [List.map_toArray, List.map_cons, List.map_nil]) <;> rfl) ?_; (with_reducible refine (columbariumlaw14_awake.calls k  tz1 _ A5.out).mono ?_); rintro e w18 ⟨rfl, hb⟩; refine ⟨_, rfl, ?_⟩; have n0_ := am (below_step (pb HB) hb); clear HB; have HB := n0_; clear n0_; (try clear hi)) | ((with_reducible refine gate_callee (f := 16) rfl ?_); refine goesL_ (some 39) rfl rfl Try.func16 (by kernel_rfl) rfl #[.int .i64 a0, .int .i64 6] rfl (by (try simp only [List.map_toArray, List.map_cons, List.map_nil]) <;> rfl) ?_; (with_reducible refine (columbariumlaw14_pick.calls a0 6 tz2 _ A6.out).mono ?_); rintro e w' ⟨rfl, ⟨nd, rfl⟩⟩; refine ⟨_, rfl, ?_⟩; (try (rw [drewN_self w18]; generalize hq_ : World.drewN w18 _ = w18; have n0_ : Aside0 (Below w.heap.size w w18) := ⟨by rw [← hq_]; exact (pb HB)⟩; clear HB hq_; have HB := n0_; clear n0_))) | ((with_reducible refine gate_callee (f := 13) rfl ?_); refine goesL_ (some 43) rfl rfl Try.func13 (by kernel_rfl) rfl #[.int .i64 (wrap64 (1 + tz2))] rfl (by (try simp only [List.map_toArray, List.map_cons, List.map_nil]) <;> rfl) ?_; (with_reducible refine (disk_New.calls (wrap64 (1 + tz2)) tz3 tz6 tz9 _ A7.out).mono ?_); rintro e w19 ⟨vz4, vz7, rfl, ho0, ho1, hb⟩; refine ⟨_, rfl, ?_⟩; have n0_ := am (Kd.R_lower ho0 (below_size (pb HB))); have n1_ := am (Kd.R_lower ho1 (below_size (pb HB))); have n2_ := am (below_step (pb HB) hb); clear HB; have HOz5 := n0_; have HOz8 := n1_; have HB := n2_; clear n0_ n1_ n2_; (try clear ho1)) | ((with_reducible refine gate_dst (N := 11) rfl ?_); (try (refine gate_guard (by rfl) ?_; dsimp only)); refine box_event ?hg (N := 11) ?hd (cs := #[.slice none 0 0, .slice none 0 0]) (t := 30) ?hr ?_; (case hd => rfl); (case hg => rfl); (case hr => first | (go_simp; done) | (go_simp; rfl)); intro gbz10 hg w20 hbox hb; have n0_ := am (Kd.R_below (pr HOz5) hb); have n1_ := am (Kd.R_below (pr HOz8) hb); have n2_ := am (below_step (pb HB) hb); have n3_ := am (hbox); have n4_ := ge_ hg (pb HB); have n5_ := ge_ hg (pb HB); clear HOz5; clear HOz8; clear HB; have HOz5 := n0_; have HOz8 := n1_; have HB := n2_; have BKz10 := n3_; have GWz10 := n4_; have GEz10 := n5_; clear n0_ n1_ n2_ n3_ n4_ n5_; clear hb hbox hg; obtain ⟨Ao21, co21, eo21⟩ := Kd.R_slice HOz5.out; subst eo21; obtain ⟨hcz22_0, hcz22_1⟩ := bc2 BKz10; obtain ⟨hfz22_0, hfz22_1⟩ := bf2 BKz10; obtain ⟨Ao23, co23, eo23⟩ := Kd.R_slice HOz8.out; subst eo23) | ((with_reducible refine gate_callee (f := 18) rfl ?_); refine goesL_ (some 48) rfl rfl Try.func18 (by kernel_rfl) rfl #[.slice A1 l1.length c1, .int .i64 (wrap64 (1 + tz2))] rfl (by (try simp only [List.map_toArray, List.map_cons, List.map_nil]) <;> rfl) ?_; (with_reducible refine (columbariumlaw14_Moves.calls k _ _ l1 (wrap64 (1 + tz2)) tz11 _ ?side1 ?side2 A8.out).mono ?_); (case side1 => exact Kd.C_below HR1.out (sC_ HB)); (case side2 => exact HC1.out); rintro e w24 ⟨vz12, rfl, ho0, hb⟩; refine ⟨_, rfl, ?_⟩; have n0_ := am (Kd.R_below (by (with_reducible repeat first | apply ra | apply rn | apply rd); exact (rs2 HOz5 BKz10 (by decide))) hb); have n1_ := am (Kd.R_elder' (by (with_reducible repeat first | apply ra | apply rn | apply rd); exact (rs2 HOz8 BKz10 (by decide))) (Kd.R_base ho0) hb); have n2_ := am (Kd.R_lower (Kd.R_new' ho0 (Kd.R_lt (by (with_reducible repeat first | apply ra | apply rn | apply rd); exact (rs2 HOz8 BKz10 (by decide))))) (below_size (sC_ HB))); have n3_ := am (blk_below (g := gbz10) (o := .cells #[.slice Ao21 tz3.length co21, .slice Ao23 tz6.length co23] 30 (0, 0)) (by (with_reducible repeat (first | refine blk_drewN ?_ _ | refine blk_drew ?_ | refine blk_alloc ?_ _)); apply bp2; exact pk BKz10) hb); have n4_ := am (below_step (sC_ HB) hb); clear HOz5; clear HOz8; clear BKz10; clear HB; have HOz5 := n0_; have HOz8 := n1_; have HOz13 := n2_; have BKz10 := n3_; have HB := n4_; clear n0_ n1_ n2_ n3_ n4_; obtain ⟨Ao25, co25, eo25⟩ := Kd.R_slice HOz13.out; subst eo25) | ((with_reducible refine gate_callee (f := 16) rfl ?_); refine goesL_ (some 53) rfl rfl Try.func16 (by kernel_rfl) rfl #[.int .i64 a3, .int .i64 (wrap64 ((tz11.length : Int) + 1))] rfl (by (try simp only [List.map_toArray, List.map_cons, List.map_nil]) <;> rfl) ?_; (with_reducible refine (columbariumlaw14_pick.calls a3 (wrap64 ((tz11.length : Int) + 1)) tz14 _ A9.out).mono ?_); rintro e w' ⟨rfl, ⟨nd, rfl⟩⟩; refine ⟨_, rfl, ?_⟩; (try (rw [drewN_self w24]; generalize hq_ : World.drewN w24 _ = w24; have n0_ : Aside0 (Kd.R Kd.string 9 w24 w.heap.size (fun _ => True) (.slice Ao21 tz3.length co21) tz3) := ⟨by rw [← hq_]; exact (pr HOz5)⟩; have n1_ : Aside0 (Kd.R k24 24 w24 w.heap.size (fun k_ => some k_ ≠ (.slice Ao25 tz11.length co25 : Value).ownBlock) (.slice Ao23 tz6.length co23) tz6) := ⟨by rw [← hq_]; exact (pm HOz8 (fun _ hk => hk.2))⟩; have n2_ : Aside0 (Kd.R k24 24 w24 w.heap.size (fun k_ => some k_ ≠ (.slice Ao23 tz6.length co23 : Value).ownBlock) (.slice Ao25 tz11.length co25) tz11) := ⟨by rw [← hq_]; exact (pm HOz13 (fun _ hk => hk.2))⟩; have n3_ : Aside0 (w24.heap[gbz10]? = some (.cells #[.slice Ao21 tz3.length co21, .slice Ao23 tz6.length co23] 30 (0, 0))) := ⟨by rw [← hq_]; exact (pk BKz10)⟩; have n4_ : Aside0 (Below w.heap.size w w24) := ⟨by rw [← hq_]; exact (sC_ HB)⟩; clear HOz5 HOz8 HOz13 BKz10 HB hq_; have HOz5 := n0_; have HOz8 := n1_; have HOz13 := n2_; have BKz10 := n3_; have HB := n4_; clear n0_ n1_ n2_ n3_ n4_))))
 have n0_ := am (Kd.R_drew HOz5.out)
 have n1_ := am (Kd.R_drew HOz8.out)
 have n2_ := am (Kd.R_drew HOz13.out)
 have n3_ := am (blk_drew BKz10.out)
 have n4_ := am (below_drew1 HB.out)
 clear HOz5 HOz8 HOz13 BKz10 HB; have HOz5 := n0_; have HOz8 := n1_; have HOz13 := n2_; have BKz10 := n3_; have HB := n4_; clear n0_ n1_ n2_ n3_ n4_
 have q27 : (tz14 : Int) ≤ ((tz11.length : Int) : Int) := of_decide_eq_true (by first | (with_reducible assumption) | assumption)
 obtain ⟨i027, hi027, _, hsz27, _⟩ := info_parts info24
 have hroom27 : tz11.length ≤ co25 := (Kd.R_reads' HOz13.out).2.1
 have hC27 : Kd.C k24 _ Ao25 tz11.length tz11 := (Kd.R_reads' HOz13.out).2.2
 have hcut27 := cut_to (P := Try.prog) 28 24 .i64 Try.underlying28 hi027 Ao25 tz11.length co25 tz14 (of_decide_eq_true (by first | (with_reducible assumption) | assumption)) q27 hroom27
 have hr27 := Kd.C_take (m := (tz14 : Int).toNat) hC27 (by omega)
 have hy27 : yz15.length = (tz14 : Int).toNat := (by rw [Nyz15.out, List.length_take]; omega)
 rw [← Nyz15.out] at hr27
 rw [← hy27] at hcut27
 have HRz18 := am hr27
 have HCz18 := am (show yz15.length ≤ co25 from by omega)
 clear hr27 hC27 hroom27 hi027 hsz27
 have KY27 := am hy27
 clear hy27
 have KL27 := am (show (tz14 : Int).toNat ≤ tz11.length from by omega)
 replace q27 := eq_true q27
 refine start_ (n := 11) (S := fun w' => w'.cell? ⟨gbz10, 0, none⟩ = some (.slice Ao21 tz3.length co21) ∧ w'.cell? ⟨gbz10, 1, none⟩ = some (.slice Ao23 tz6.length co23)) (ds := []) #[false, false, false, false, false, false, false, false, false, false, false] (by kernel_rfl) rfl rfl (bc2 BKz10) (fun hHeld => ?_); refine with_tabW columbariumlaw14_DiskCrashes.tab6 columbariumlaw14_DiskCrashes.bits6 (fun HT_ HW_ => ?_)
 generalize w24.drew = w26 at HOz5 HOz8 HOz13 BKz10 HB HRz18 hHeld ⊢
 refine pu_ 1 (some 56) HT_ rfl rfl (.inl ⟨by rfl, by intro w'; go_simp; with_reducible rfl⟩) (by simp only [Act.put, sa_, s0_, s1_, i64_w, i32_w]; rfl) ?_
 refine pu_ 2 (some 57) HT_ rfl rfl (.inl ⟨by rfl, by intro w'; go_simp; with_reducible rfl⟩) (by simp only [Act.put, sa_, s0_, s1_, i64_w, i32_w]; rfl) ?_
 refine pu_ 3 (some 58) HT_ rfl rfl (.inl ⟨by rfl, by intro w'; go_simp; with_reducible rfl⟩) (by simp only [Act.put, sa_, s0_, s1_, i64_w, i32_w]; rfl) ?_
 refine tk_ 0 (some 55) HT_ HW_ rfl rfl (.inl ⟨by rfl, by rintro w' ⟨s0, s1⟩; go_simp; with_reducible rfl⟩) hHeld (by simp only [Act.put, sa_, s0_, s1_, i64_w, i32_w]; rfl) ?_
 refine join_ (σ := Value × Value × Nat) 2 #[true, true, true, true, true, true, true, true, true, false, false] (fun s_ => [(59, .tuple #[.agg #[s_.1, s_.2.1], .int .i64 tz25]), (15, .pointer (some ⟨s_.2.2, 0, none⟩)), (54, .tuple #[.agg #[s_.1, s_.2.1], .int .i64 tz25]), (60, .agg #[s_.1, s_.2.1]), (61, .int .i64 tz25)]) (fun s_ w' => (w'.cell? ⟨gbz10, 0, none⟩ = some (.slice Ao21 tz3.length co21) ∧ w'.cell? ⟨gbz10, 1, none⟩ = some (.slice Ao23 tz6.length co23)) ∧ (Kd.R Kd.string 9 w' w.heap.size (fun k_ => some k_ ≠ (s_.1 : Value).ownBlock) (.slice Ao21 tz3.length co21) tz3) ∧ (Kd.R k24 24 w' w.heap.size (fun k_ => some k_ ≠ (.slice Ao25 tz11.length co25 : Value).ownBlock ∧ some k_ ≠ (s_.2.1 : Value).ownBlock) (.slice Ao23 tz6.length co23) tz6) ∧ (Kd.R k24 24 w' w.heap.size (fun k_ => some k_ ≠ (.slice Ao23 tz6.length co23 : Value).ownBlock ∧ some k_ ≠ (s_.2.1 : Value).ownBlock) (.slice Ao25 tz11.length co25) tz11) ∧ (Kd.R Kd.string 9 w' w.heap.size (fun k_ => some k_ ≠ (.slice Ao21 tz3.length co21 : Value).ownBlock) s_.1 tz19) ∧ (Kd.R k24 24 w' w.heap.size (fun k_ => some k_ ≠ (.slice Ao23 tz6.length co23 : Value).ownBlock ∧ some k_ ≠ (.slice Ao25 tz11.length co25 : Value).ownBlock) s_.2.1 tz22) ∧ (w'.heap[gbz10]? = some (.cells #[.slice Ao21 tz3.length co21, .slice Ao23 tz6.length co23] 30 (0, 0))) ∧ (w'.heap[s_.2.2]? = some (.cells #[.slice none 0 0, .slice none 0 0] 30 (0, 0))) ∧ (w.heap.size ≤ s_.2.2) ∧ (w.heap.size ≤ s_.2.2) ∧ (gbz10 ≠ s_.2.2) ∧ (s_.2.2 ≠ gbz10) ∧ (Below w.heap.size w w')) ?_ ?_
 rotate_left
 ·as_aux_lemma =>
   intro hCont
   refine two_ (i := 4) (j := 8) (Ni := some 59) (Nj := some 15) #[true, true, true, true, true, false, false, false, false, false, false] #[true, true, true, true, false, false, false, false, true, false, false] rfl rfl rfl rfl (two_of HT_.out (by kernel_rfl)) (by decide) (by decide) (fun K hK => ?_) (fun K hK => ?_)
   rotate_left
   ·skip
    refine box_step ?hg (N := 15) ?hd (cs := #[.slice none 0 0, .slice none 0 0]) (t := 30) ?hr ?_; (case hd => rfl); (case hg => rfl); (case hr => first | (go_simp; done) | (go_simp; rfl))
    intro gbz26 hg w28 hbox hb
    have n0_ := am (Kd.R_below (pr HOz5) hb)
    have n1_ := am (Kd.R_below (pr HOz8) hb)
    have n2_ := am (Kd.R_below (pr HOz13) hb)
    have n3_ := am (blk_below (pk BKz10) hb)
    have n4_ := am (Kd.C_below (by repeat (first | (with_reducible exact HRz18.out) | (with_reducible refine Kd.C_alloc ?_ _) | (with_reducible refine Kd.C_drewN ?_ _) | (with_reducible refine Kd.C_drew ?_) | exact HRz18.out)) hb)
    have n5_ := am (below_step (sC_ HB) hb)
    have n6_ := am (hbox)
    have n7_ := ge_ hg (sC_ HB)
    have n8_ := ge_ hg (sC_ HB)
    have n9_ := nl_ hg BKz10
    have n10_ := ng_ hg BKz10
    clear HOz5 HOz8 HOz13 BKz10 HRz18 HB; have HOz5 := n0_; have HOz8 := n1_; have HOz13 := n2_; have BKz10 := n3_; have HRz18 := n4_; have HB := n5_; have BKz26 := n6_; have GWz26 := n7_; have GEz26 := n8_; have NBz10_z26 := n9_; have NBz26_z10 := n10_; clear n0_ n1_ n2_ n3_ n4_ n5_ n6_ n7_ n8_ n9_ n10_; clear hb hbox hg
    refine hK.out _ _ (bc2 BKz10) (fun hHeld => ?_)
    clear hK K
    refine norm_ (by show Act.put _ (some 15) _ = _; simp only [Act.put, sa_, s0_, s1_, i64_w, i32_w]; rfl) ?_
    refine on_ 4 (some 59) HT_ rfl rfl (fun K hK => ?_)
    refine goes_ Try.func25 (by kernel_rfl) rfl #[.agg #[.slice Ao21 tz3.length co21, .slice Ao23 tz6.length co23], .slice Ao25 yz15.length co25] (by rfl) rfl rfl (by (try simp only [List.map_toArray, List.map_cons, List.map_nil]) <;> rfl) ?_
    with_reducible refine (disk_Do.calls _ _ tz3 _ _ tz6 _ _ yz15 tz19 tz22 tz25 _ ?side1 ?side2 ?side3 ?side4 ?side5 ?side6 A12.out).mono ?_
    (case side1 => repeat (first | exact (Kd.R_reads' HOz5.out).2.2 | (with_reducible refine Kd.C_alloc ?_ _) | (with_reducible refine Kd.C_drewN ?_ _) | (with_reducible refine Kd.C_drew ?_)))
    (case side2 => exact (Kd.R_reads' HOz5.out).2.1)
    (case side3 => repeat (first | exact (Kd.R_reads' HOz8.out).2.2 | (with_reducible refine Kd.C_alloc ?_ _) | (with_reducible refine Kd.C_drewN ?_ _) | (with_reducible refine Kd.C_drew ?_)))
    (case side4 => exact (Kd.R_reads' HOz8.out).2.1)
    (case side5 => repeat (first | exact (by repeat (first | (with_reducible exact HRz18.out) | (with_reducible refine Kd.C_alloc ?_ _) | (with_reducible refine Kd.C_drewN ?_ _) | (with_reducible refine Kd.C_drew ?_) | exact HRz18.out)) | (with_reducible refine Kd.C_alloc ?_ _) | (with_reducible refine Kd.C_drewN ?_ _) | (with_reducible refine Kd.C_drew ?_)))
    (case side6 => exact HCz18.out)
    rintro e w29 ⟨vz20, vz23, rfl, ho0, ho1, hb⟩
    refine ⟨_, rfl, ?_⟩
    have n0_ := am (Kd.R_elder' (pr HOz5) (Kd.R_base ho0) hb)
    have n1_ := am (Kd.R_elder' (pr HOz8) (Kd.R_base ho1) hb)
    have n2_ := am (Kd.R_elder' (pr HOz13) (Kd.R_base ho1) hb)
    have n3_ := am (Kd.R_lower (Kd.R_new' ho0 (Kd.R_lt (pr HOz5))) (below_size (sC_ HB)))
    have n4_ := am (Kd.R_lower (Kd.R_new' (Kd.R_new' ho1 (Kd.R_lt (pr HOz8))) (Kd.R_lt (pr HOz13))) (below_size (sC_ HB)))
    have n5_ := am (blk_below (pk BKz10) hb)
    have n6_ := am (Kd.C_below (by repeat (first | (with_reducible exact HRz18.out) | (with_reducible refine Kd.C_alloc ?_ _) | (with_reducible refine Kd.C_drewN ?_ _) | (with_reducible refine Kd.C_drew ?_) | exact HRz18.out)) hb)
    have n7_ := am (blk_below (pk BKz26) hb)
    have n8_ := am (below_step (sC_ HB) hb)
    clear HOz5 HOz8 HOz13 BKz10 HRz18 BKz26 HB; have HOz5 := n0_; have HOz8 := n1_; have HOz13 := n2_; have HOz21 := n3_; have HOz24 := n4_; have BKz10 := n5_; have HRz18 := n6_; have BKz26 := n7_; have HB := n8_; clear n0_ n1_ n2_ n3_ n4_ n5_ n6_ n7_ n8_; refine hK.out _ _ (bc2 BKz10) (fun hHeld => ?_)
    clear hK K
    refine norm_ (by show Act.put _ (some 59) _ = _; simp only [Act.put, sa_, s0_, s1_, i64_w, i32_w]; rfl) ?_
    refine pu_ 5 (some 54) HT_ rfl rfl (.inl ⟨by rfl, by intro w'; go_simp; with_reducible rfl⟩) (by simp only [Act.put, sa_, s0_, s1_, i64_w, i32_w]; rfl) ?_
    refine pu_ 6 (some 60) HT_ rfl rfl (.inl ⟨by rfl, by intro w'; go_simp; with_reducible rfl⟩) (by simp only [Act.put, sa_, s0_, s1_, i64_w, i32_w]; rfl) ?_
    refine pu_ 7 (some 61) HT_ rfl rfl (.inl ⟨by rfl, by intro w'; go_simp; with_reducible rfl⟩) (by simp only [Act.put, sa_, s0_, s1_, i64_w, i32_w]; rfl) ?_
    exact norm_ (by simp only [putAll, Act.put, List.setIfInBounds_toArray, List.set_cons_zero, List.set_cons_succ]) (hCont (vz20, vz23, gbz26) _ ⟨hHeld, (pm HOz5 (fun _ hk => by (repeat' apply And.intro) <;> (with_reducible first | exact hk | exact hk.1 | exact hk.2 | exact hk.1.1 | exact hk.1.2 | exact hk.2.1 | exact hk.2.2 | exact hk.1.1.1 | exact hk.1.1.2 | exact hk.1.2.1 | exact hk.1.2.2 | exact hk.2.1.1 | exact hk.2.1.2 | exact hk.2.2.1 | exact hk.2.2.2))), (pm HOz8 (fun _ hk => by (repeat' apply And.intro) <;> (with_reducible first | exact hk | exact hk.1 | exact hk.2 | exact hk.1.1 | exact hk.1.2 | exact hk.2.1 | exact hk.2.2 | exact hk.1.1.1 | exact hk.1.1.2 | exact hk.1.2.1 | exact hk.1.2.2 | exact hk.2.1.1 | exact hk.2.1.2 | exact hk.2.2.1 | exact hk.2.2.2))), (pm HOz13 (fun _ hk => by (repeat' apply And.intro) <;> (with_reducible first | exact hk | exact hk.1 | exact hk.2 | exact hk.1.1 | exact hk.1.2 | exact hk.2.1 | exact hk.2.2 | exact hk.1.1.1 | exact hk.1.1.2 | exact hk.1.2.1 | exact hk.1.2.2 | exact hk.2.1.1 | exact hk.2.1.2 | exact hk.2.2.1 | exact hk.2.2.2))), (pm HOz21 (fun _ hk => by (repeat' apply And.intro) <;> (with_reducible first | exact hk | exact hk.1 | exact hk.2 | exact hk.1.1 | exact hk.1.2 | exact hk.2.1 | exact hk.2.2 | exact hk.1.1.1 | exact hk.1.1.2 | exact hk.1.2.1 | exact hk.1.2.2 | exact hk.2.1.1 | exact hk.2.1.2 | exact hk.2.2.1 | exact hk.2.2.2))), (pm HOz24 (fun _ hk => by (repeat' apply And.intro) <;> (with_reducible first | exact hk | exact hk.1 | exact hk.2 | exact hk.1.1 | exact hk.1.2 | exact hk.2.1 | exact hk.2.2 | exact hk.1.1.1 | exact hk.1.1.2 | exact hk.1.2.1 | exact hk.1.2.2 | exact hk.2.1.1 | exact hk.2.1.2 | exact hk.2.2.1 | exact hk.2.2.2))), (pk BKz10), (pk BKz26), GWz26.out, GEz26.out, NBz10_z26.out, NBz26_z10.out, (sC_ HB)⟩)
   skip
   refine goes_ Try.func25 (by kernel_rfl) rfl #[.agg #[.slice Ao21 tz3.length co21, .slice Ao23 tz6.length co23], .slice Ao25 yz15.length co25] (by rfl) rfl rfl (by (try simp only [List.map_toArray, List.map_cons, List.map_nil]) <;> rfl) ?_
   with_reducible refine (disk_Do.calls _ _ tz3 _ _ tz6 _ _ yz15 tz19 tz22 tz25 _ ?side1 ?side2 ?side3 ?side4 ?side5 ?side6 A12.out).mono ?_
   (case side1 => repeat (first | exact (Kd.R_reads' HOz5.out).2.2 | (with_reducible refine Kd.C_alloc ?_ _) | (with_reducible refine Kd.C_drewN ?_ _) | (with_reducible refine Kd.C_drew ?_)))
   (case side2 => exact (Kd.R_reads' HOz5.out).2.1)
   (case side3 => repeat (first | exact (Kd.R_reads' HOz8.out).2.2 | (with_reducible refine Kd.C_alloc ?_ _) | (with_reducible refine Kd.C_drewN ?_ _) | (with_reducible refine Kd.C_drew ?_)))
   (case side4 => exact (Kd.R_reads' HOz8.out).2.1)
   (case side5 => repeat (first | exact (by repeat (first | (with_reducible exact HRz18.out) | (with_reducible refine Kd.C_alloc ?_ _) | (with_reducible refine Kd.C_drewN ?_ _) | (with_reducible refine Kd.C_drew ?_) | exact HRz18.out)) | (with_reducible refine Kd.C_alloc ?_ _) | (with_reducible refine Kd.C_drewN ?_ _) | (with_reducible refine Kd.C_drew ?_)))
   (case side6 => exact HCz18.out)
   rintro e w28 ⟨vz20, vz23, rfl, ho0, ho1, hb⟩
   refine ⟨_, rfl, ?_⟩
   have n0_ := am (Kd.R_elder' (pr HOz5) (Kd.R_base ho0) hb)
   have n1_ := am (Kd.R_elder' (pr HOz8) (Kd.R_base ho1) hb)
   have n2_ := am (Kd.R_elder' (pr HOz13) (Kd.R_base ho1) hb)
   have n3_ := am (Kd.R_lower (Kd.R_new' ho0 (Kd.R_lt (pr HOz5))) (below_size (sC_ HB)))
   have n4_ := am (Kd.R_lower (Kd.R_new' (Kd.R_new' ho1 (Kd.R_lt (pr HOz8))) (Kd.R_lt (pr HOz13))) (below_size (sC_ HB)))
   have n5_ := am (blk_below (pk BKz10) hb)
   have n6_ := am (Kd.C_below (by repeat (first | (with_reducible exact HRz18.out) | (with_reducible refine Kd.C_alloc ?_ _) | (with_reducible refine Kd.C_drewN ?_ _) | (with_reducible refine Kd.C_drew ?_) | exact HRz18.out)) hb)
   have n7_ := am (below_step (sC_ HB) hb)
   clear HOz5 HOz8 HOz13 BKz10 HRz18 HB; have HOz5 := n0_; have HOz8 := n1_; have HOz13 := n2_; have HOz21 := n3_; have HOz24 := n4_; have BKz10 := n5_; have HRz18 := n6_; have HB := n7_; clear n0_ n1_ n2_ n3_ n4_ n5_ n6_ n7_; refine hK.out _ _ (bc2 BKz10) (fun hHeld => ?_)
   clear hK K
   refine norm_ (by show Act.put _ (some 59) _ = _; simp only [Act.put, sa_, s0_, s1_, i64_w, i32_w]; rfl) ?_
   refine pu_ 5 (some 54) HT_ rfl rfl (.inl ⟨by rfl, by intro w'; go_simp; with_reducible rfl⟩) (by simp only [Act.put, sa_, s0_, s1_, i64_w, i32_w]; rfl) ?_
   refine pu_ 6 (some 60) HT_ rfl rfl (.inl ⟨by rfl, by intro w'; go_simp; with_reducible rfl⟩) (by simp only [Act.put, sa_, s0_, s1_, i64_w, i32_w]; rfl) ?_
   refine pu_ 7 (some 61) HT_ rfl rfl (.inl ⟨by rfl, by intro w'; go_simp; with_reducible rfl⟩) (by simp only [Act.put, sa_, s0_, s1_, i64_w, i32_w]; rfl) ?_
   refine on_ 8 (some 15) HT_ rfl rfl (fun K hK => ?_)
   refine box_step ?hg (N := 15) ?hd (cs := #[.slice none 0 0, .slice none 0 0]) (t := 30) ?hr ?_; (case hd => rfl); (case hg => rfl); (case hr => first | (go_simp; done) | (go_simp; rfl))
   intro gbz26 hg w29 hbox hb
   have n0_ := am (Kd.R_below (pr HOz5) hb)
   have n1_ := am (Kd.R_below (pr HOz8) hb)
   have n2_ := am (Kd.R_below (pr HOz13) hb)
   have n3_ := am (Kd.R_below (pr HOz21) hb)
   have n4_ := am (Kd.R_below (pr HOz24) hb)
   have n5_ := am (blk_below (pk BKz10) hb)
   have n6_ := am (Kd.C_below (by repeat (first | (with_reducible exact HRz18.out) | (with_reducible refine Kd.C_alloc ?_ _) | (with_reducible refine Kd.C_drewN ?_ _) | (with_reducible refine Kd.C_drew ?_) | exact HRz18.out)) hb)
   have n7_ := am (below_step (sC_ HB) hb)
   have n8_ := am (hbox)
   have n9_ := ge_ hg (sC_ HB)
   have n10_ := ge_ hg (sC_ HB)
   have n11_ := nl_ hg BKz10
   have n12_ := ng_ hg BKz10
   clear HOz5 HOz8 HOz13 HOz21 HOz24 BKz10 HRz18 HB; have HOz5 := n0_; have HOz8 := n1_; have HOz13 := n2_; have HOz21 := n3_; have HOz24 := n4_; have BKz10 := n5_; have HRz18 := n6_; have HB := n7_; have BKz26 := n8_; have GWz26 := n9_; have GEz26 := n10_; have NBz10_z26 := n11_; have NBz26_z10 := n12_; clear n0_ n1_ n2_ n3_ n4_ n5_ n6_ n7_ n8_ n9_ n10_ n11_ n12_; clear hb hbox hg
   refine hK.out _ _ (bc2 BKz10) (fun hHeld => ?_)
   clear hK K
   refine norm_ (by show Act.put _ (some 15) _ = _; simp only [Act.put, sa_, s0_, s1_, i64_w, i32_w]; rfl) ?_
   exact norm_ (by simp only [putAll, Act.put, List.setIfInBounds_toArray, List.set_cons_zero, List.set_cons_succ]) (hCont (vz20, vz23, gbz26) _ ⟨hHeld, (pm HOz5 (fun _ hk => by (repeat' apply And.intro) <;> (with_reducible first | exact hk | exact hk.1 | exact hk.2 | exact hk.1.1 | exact hk.1.2 | exact hk.2.1 | exact hk.2.2 | exact hk.1.1.1 | exact hk.1.1.2 | exact hk.1.2.1 | exact hk.1.2.2 | exact hk.2.1.1 | exact hk.2.1.2 | exact hk.2.2.1 | exact hk.2.2.2))), (pm HOz8 (fun _ hk => by (repeat' apply And.intro) <;> (with_reducible first | exact hk | exact hk.1 | exact hk.2 | exact hk.1.1 | exact hk.1.2 | exact hk.2.1 | exact hk.2.2 | exact hk.1.1.1 | exact hk.1.1.2 | exact hk.1.2.1 | exact hk.1.2.2 | exact hk.2.1.1 | exact hk.2.1.2 | exact hk.2.2.1 | exact hk.2.2.2))), (pm HOz13 (fun _ hk => by (repeat' apply And.intro) <;> (with_reducible first | exact hk | exact hk.1 | exact hk.2 | exact hk.1.1 | exact hk.1.2 | exact hk.2.1 | exact hk.2.2 | exact hk.1.1.1 | exact hk.1.1.2 | exact hk.1.2.1 | exact hk.1.2.2 | exact hk.2.1.1 | exact hk.2.1.2 | exact hk.2.2.1 | exact hk.2.2.2))), (pm HOz21 (fun _ hk => by (repeat' apply And.intro) <;> (with_reducible first | exact hk | exact hk.1 | exact hk.2 | exact hk.1.1 | exact hk.1.2 | exact hk.2.1 | exact hk.2.2 | exact hk.1.1.1 | exact hk.1.1.2 | exact hk.1.2.1 | exact hk.1.2.2 | exact hk.2.1.1 | exact hk.2.1.2 | exact hk.2.2.1 | exact hk.2.2.2))), (pm HOz24 (fun _ hk => by (repeat' apply And.intro) <;> (with_reducible first | exact hk | exact hk.1 | exact hk.2 | exact hk.1.1 | exact hk.1.2 | exact hk.2.1 | exact hk.2.2 | exact hk.1.1.1 | exact hk.1.1.2 | exact hk.1.2.1 | exact hk.1.2.2 | exact hk.2.1.1 | exact hk.2.1.2 | exact hk.2.2.1 | exact hk.2.2.2))), (pk BKz10), (pk BKz26), GWz26.out, GEz26.out, NBz10_z26.out, NBz26_z10.out, (sC_ HB)⟩)
 rintro ⟨vz20, vz23, gbz26⟩ w30 ⟨hS_, h0_, h1_, h2_, h3_, h4_, h5_, h6_, h7_, h8_, h9_, h10_, h11_⟩
 have n0_ : Aside0 (Kd.R Kd.string 9 w30 w.heap.size (fun k_ => some k_ ≠ (vz20 : Value).ownBlock) (.slice Ao21 tz3.length co21) tz3) := ⟨h0_⟩
 have n1_ : Aside0 (Kd.R k24 24 w30 w.heap.size (fun k_ => some k_ ≠ (.slice Ao25 tz11.length co25 : Value).ownBlock ∧ some k_ ≠ (vz23 : Value).ownBlock) (.slice Ao23 tz6.length co23) tz6) := ⟨h1_⟩
 have n2_ : Aside0 (Kd.R k24 24 w30 w.heap.size (fun k_ => some k_ ≠ (.slice Ao23 tz6.length co23 : Value).ownBlock ∧ some k_ ≠ (vz23 : Value).ownBlock) (.slice Ao25 tz11.length co25) tz11) := ⟨h2_⟩
 have n3_ : Aside0 (Kd.R Kd.string 9 w30 w.heap.size (fun k_ => some k_ ≠ (.slice Ao21 tz3.length co21 : Value).ownBlock) vz20 tz19) := ⟨h3_⟩
 have n4_ : Aside0 (Kd.R k24 24 w30 w.heap.size (fun k_ => some k_ ≠ (.slice Ao23 tz6.length co23 : Value).ownBlock ∧ some k_ ≠ (.slice Ao25 tz11.length co25 : Value).ownBlock) vz23 tz22) := ⟨h4_⟩
 have n5_ : Aside0 (w30.heap[gbz10]? = some (.cells #[.slice Ao21 tz3.length co21, .slice Ao23 tz6.length co23] 30 (0, 0))) := ⟨h5_⟩
 have n6_ : Aside0 (w30.heap[gbz26]? = some (.cells #[.slice none 0 0, .slice none 0 0] 30 (0, 0))) := ⟨h6_⟩
 have n7_ : Aside0 (w.heap.size ≤ gbz26) := ⟨h7_⟩
 have n8_ : Aside0 (w.heap.size ≤ gbz26) := ⟨h8_⟩
 have n9_ : Aside0 (gbz10 ≠ gbz26) := ⟨h9_⟩
 have n10_ : Aside0 (gbz26 ≠ gbz10) := ⟨h10_⟩
 have n11_ : Aside0 (Below w.heap.size w w30) := ⟨h11_⟩
 clear HOz5 HOz8 HOz13 BKz10 HB h0_ h1_ h2_ h3_ h4_ h5_ h6_ h7_ h8_ h9_ h10_ h11_; have HOz5 := n0_; have HOz8 := n1_; have HOz13 := n2_; have HOz21 := n3_; have HOz24 := n4_; have BKz10 := n5_; have BKz26 := n6_; have GWz26 := n7_; have GEz26 := n8_; have NBz10_z26 := n9_; have NBz26_z10 := n10_; have HB := n11_; clear n0_ n1_ n2_ n3_ n4_ n5_ n6_ n7_ n8_ n9_ n10_ n11_
 have hHeld : w30.cell? ⟨gbz10, 0, none⟩ = some (.slice Ao21 tz3.length co21) ∧ w30.cell? ⟨gbz10, 1, none⟩ = some (.slice Ao23 tz6.length co23) := hS_
 obtain ⟨Ao31, co31, eo31⟩ := Kd.R_slice HOz21.out
 (first | subst eo31 | (injection eo31 with f1_ f2_ f3_; have f4_ := f1_.symm; have f5_ := f3_.symm; clear f1_ f2_ f3_; subst f4_; subst f5_))
 obtain ⟨Ao33, co33, eo33⟩ := Kd.R_slice HOz24.out
 (first | subst eo33 | (injection eo33 with f1_ f2_ f3_; have f4_ := f1_.symm; have f5_ := f3_.symm; clear f1_ f2_ f3_; subst f4_; subst f5_))
 refine norm_ (by simp only [putAll, Act.put, List.setIfInBounds_toArray, List.set_cons_zero, List.set_cons_succ]; rfl) ?_
 refine on_ 9 none HT_ rfl rfl (fun K hK => ?_)
 have hs32 : w30.cell? ⟨gbz26, 0, none⟩ = some (.slice none 0 0) := (blk_cell BKz26.out 0).trans rfl
 have hfs32 := blk_frozen BKz26.out 0
 have := NBz10_z26.out
 have := NBz26_z10.out
 have hs34 : w30.cell? ⟨gbz26, 1, none⟩ = some (.slice none 0 0) := (blk_cell BKz26.out 1).trans rfl
 have hfs34 := blk_frozen BKz26.out 1
 have := NBz10_z26.out
 have := NBz26_z10.out
 refine skip_ (by rfl) rfl (by go_simp; rfl) ?_
 refine hK.out _ _ ⟨((cell_far (p := ⟨gbz26, _, none⟩) NBz10_z26.out _).trans (((cell_far (p := ⟨gbz26, _, none⟩) NBz10_z26.out _).trans (hHeld.1)))), ((cell_far (p := ⟨gbz26, _, none⟩) NBz10_z26.out _).trans (((cell_far (p := ⟨gbz26, _, none⟩) NBz10_z26.out _).trans (hHeld.2))))⟩ (fun hHeld => ?_)
 clear hK K
 refine pu_ 10 (some 16) HT_ rfl rfl (.inl ⟨by rfl, by intro w'; go_simp; with_reducible rfl⟩) (by simp only [Act.put, sa_, s0_, s1_, i64_w, i32_w]; rfl) ?_
 refine done_ (done_of HT_.out (by kernel_rfl)) ?_
 try go_wp2
 have n0_ : Aside0 (Kd.R Kd.string 9 ((w30.setCell ⟨gbz26, 0, none⟩ (.slice Ao31 tz19.length co31)).setCell ⟨gbz26, 1, none⟩ (.slice Ao33 tz22.length co33)) w.heap.size (fun k_ => some k_ ≠ (.slice Ao31 tz19.length co31 : Value).ownBlock) (.slice Ao21 tz3.length co21) tz3) := ⟨by (with_reducible repeat first | apply ra | apply rn | apply rd); exact Kd.R_mono (rf2 (Kd.R_types HOz5.out BKz26.out (by decide)) (fun _ hk => hk.2)) (fun _ hk => hk.1)⟩
 have n1_ : Aside0 (Kd.R k24 24 ((w30.setCell ⟨gbz26, 0, none⟩ (.slice Ao31 tz19.length co31)).setCell ⟨gbz26, 1, none⟩ (.slice Ao33 tz22.length co33)) w.heap.size (fun k_ => some k_ ≠ (.slice Ao25 tz11.length co25 : Value).ownBlock ∧ some k_ ≠ (.slice Ao33 tz22.length co33 : Value).ownBlock) (.slice Ao23 tz6.length co23) tz6) := ⟨by (with_reducible repeat first | apply ra | apply rn | apply rd); exact Kd.R_mono (rf2 (Kd.R_types HOz8.out BKz26.out (by decide)) (fun _ hk => hk.2)) (fun _ hk => ⟨hk.1.1, hk.1.2⟩)⟩
 have n2_ : Aside0 (Kd.R k24 24 ((w30.setCell ⟨gbz26, 0, none⟩ (.slice Ao31 tz19.length co31)).setCell ⟨gbz26, 1, none⟩ (.slice Ao33 tz22.length co33)) w.heap.size (fun k_ => some k_ ≠ (.slice Ao23 tz6.length co23 : Value).ownBlock ∧ some k_ ≠ (.slice Ao33 tz22.length co33 : Value).ownBlock) (.slice Ao25 tz11.length co25) tz11) := ⟨by (with_reducible repeat first | apply ra | apply rn | apply rd); exact Kd.R_mono (rf2 (Kd.R_types HOz13.out BKz26.out (by decide)) (fun _ hk => hk.2)) (fun _ hk => ⟨hk.1.1, hk.1.2⟩)⟩
 have n3_ : Aside0 (Kd.R Kd.string 9 ((w30.setCell ⟨gbz26, 0, none⟩ (.slice Ao31 tz19.length co31)).setCell ⟨gbz26, 1, none⟩ (.slice Ao33 tz22.length co33)) w.heap.size (fun k_ => some k_ ≠ (.slice Ao21 tz3.length co21 : Value).ownBlock) (.slice Ao31 tz19.length co31) tz19) := ⟨by (with_reducible repeat first | apply ra | apply rn | apply rd); exact Kd.R_mono (rf2 (Kd.R_types HOz21.out BKz26.out (by decide)) (fun _ hk => hk.2)) (fun _ hk => hk.1)⟩
 have n4_ : Aside0 (Kd.R k24 24 ((w30.setCell ⟨gbz26, 0, none⟩ (.slice Ao31 tz19.length co31)).setCell ⟨gbz26, 1, none⟩ (.slice Ao33 tz22.length co33)) w.heap.size (fun k_ => some k_ ≠ (.slice Ao23 tz6.length co23 : Value).ownBlock ∧ some k_ ≠ (.slice Ao25 tz11.length co25 : Value).ownBlock) (.slice Ao33 tz22.length co33) tz22) := ⟨by (with_reducible repeat first | apply ra | apply rn | apply rd); exact Kd.R_mono (rf2 (Kd.R_types HOz24.out BKz26.out (by decide)) (fun _ hk => hk.2)) (fun _ hk => ⟨hk.1.1, hk.1.2⟩)⟩
 have n5_ : Aside0 (((w30.setCell ⟨gbz26, 0, none⟩ (.slice Ao31 tz19.length co31)).setCell ⟨gbz26, 1, none⟩ (.slice Ao33 tz22.length co33)).heap[gbz10]? = some (.cells #[.slice Ao21 tz3.length co21, .slice Ao23 tz6.length co23] 30 (0, 0))) := ⟨by (with_reducible repeat (first | refine blk_drewN ?_ _ | refine blk_drew ?_ | refine blk_alloc ?_ _)); refine blk_far ?_ NBz10_z26.out _; refine blk_far ?_ NBz10_z26.out _; (with_reducible repeat (first | refine blk_drewN ?_ _ | refine blk_drew ?_ | refine blk_alloc ?_ _)); exact BKz10.out⟩
 have n6_ : Aside0 (((w30.setCell ⟨gbz26, 0, none⟩ (.slice Ao31 tz19.length co31)).setCell ⟨gbz26, 1, none⟩ (.slice Ao33 tz22.length co33)).heap[gbz26]? = some (.cells #[.slice Ao31 tz19.length co31, .slice Ao33 tz22.length co33] 30 (0, 0))) := ⟨by (with_reducible repeat (first | refine blk_drewN ?_ _ | refine blk_drew ?_ | refine blk_alloc ?_ _)); apply bp2; (with_reducible repeat (first | refine blk_drewN ?_ _ | refine blk_drew ?_ | refine blk_alloc ?_ _)); exact BKz26.out⟩
 have n7_ : Aside0 (Below w.heap.size w ((w30.setCell ⟨gbz26, 0, none⟩ (.slice Ao31 tz19.length co31)).setCell ⟨gbz26, 1, none⟩ (.slice Ao33 tz22.length co33))) := (sB_ HB)
 (try clear HOz5); (try clear HOz8); (try clear HOz13); (try clear HOz21); (try clear HOz24); (try clear BKz10); (try clear BKz26); (try clear HB)
 generalize ((w30.setCell ⟨gbz26, 0, none⟩ (.slice Ao31 tz19.length co31)).setCell ⟨gbz26, 1, none⟩ (.slice Ao33 tz22.length co33)) = w35 at n0_ n1_ n2_ n3_ n4_ n5_ n6_ n7_ ⊢
 have HOz5 := n0_; have HOz8 := n1_; have HOz13 := n2_; have HOz21 := n3_; have HOz24 := n4_; have BKz10 := n5_; have BKz26 := n6_; have HB := n7_; clear n0_ n1_ n2_ n3_ n4_ n5_ n6_ n7_
 have n0_ := am (Kd.R_drew HOz5.out)
 have n1_ := am (Kd.R_drew HOz8.out)
 have n2_ := am (Kd.R_drew HOz13.out)
 have n3_ := am (Kd.R_drew HOz21.out)
 have n4_ := am (Kd.R_drew HOz24.out)
 have n5_ := am (blk_drew BKz10.out)
 have n6_ := am (blk_drew BKz26.out)
 have n7_ := am (below_drew1 HB.out)
 clear HOz5 HOz8 HOz13 HOz21 HOz24 BKz10 BKz26 HB; have HOz5 := n0_; have HOz8 := n1_; have HOz13 := n2_; have HOz21 := n3_; have HOz24 := n4_; have BKz10 := n5_; have BKz26 := n6_; have HB := n7_; clear n0_ n1_ n2_ n3_ n4_ n5_ n6_ n7_
 have q37 : (tz14 : Int) ≤ ((tz11.length : Int) : Int) := of_decide_eq_true (by first | (with_reducible assumption) | assumption)
 obtain ⟨i037, hi037, _, hsz37, _⟩ := info_parts info24
 have hroom37 : tz11.length ≤ co25 := (Kd.R_reads' HOz13.out).2.1
 have hC37 : Kd.C k24 _ Ao25 tz11.length tz11 := (Kd.R_reads' HOz13.out).2.2
 have q037 : (0 : Int) ≤ (tz14 : Int) := of_decide_eq_true (by first | (with_reducible assumption) | assumption)
 have hcut37 := cut_from (P := Try.prog) 28 24 .i64 Try.underlying28 hi037 3 hsz37 Ao25 tz11.length co25 tz14 q037 q37
 have hr37 := Kd.C_drop (m := (tz14 : Int).toNat) (c := co25) hC37 (by omega) hroom37
 obtain ⟨A37, hA37⟩ : ∃ A1, A1 = (if co25 = (tz14 : Int).toNat then Ao25 else (Ao25 : Option Addr).map (·.add ((tz14 : Int).toNat * 3))) := ⟨_, rfl⟩
 obtain ⟨c37, hc37⟩ : ∃ c1, c1 = co25 - (tz14 : Int).toNat := ⟨_, rfl⟩
 have hy37 : yz27.length = tz11.length - (tz14 : Int).toNat := (by rw [Nyz27.out, List.length_drop] <;> omega)
 rw [show (tz11).drop (tz14 : Int).toNat = yz27 from Nyz27.out.symm] at hr37
 replace hr37 : Kd.C k24 _ A37 yz27.length yz27 := (by rw [hA37]; exact hr37)
 rw [← hy37, ← hA37, ← hc37] at hcut37
 have HRz30 := am hr37
 have HCz30 := am (show yz27.length ≤ c37 from by rw [hy37, hc37]; exact Nat.sub_le_sub_right hroom37 _)
 clear hr37 hC37 hroom37 hi037 hsz37 hc37
 have KY37 := am hy37
 have KA37 := am hA37
 clear hy37 hA37
 have KL37 := am (show (tz14 : Int).toNat ≤ tz11.length from by omega)
 replace q37 := eq_true q37
 refine start_ (n := 11) (S := fun w' => w'.cell? ⟨gbz26, 0, none⟩ = some (.slice Ao31 tz19.length co31) ∧ w'.cell? ⟨gbz26, 1, none⟩ = some (.slice Ao33 tz22.length co33)) (ds := []) #[false, false, false, false, false, false, false, false, false, false, false] (by kernel_rfl) rfl rfl (bc2 BKz26) (fun hHeld => ?_); refine with_tabW columbariumlaw14_DiskCrashes.tab7 columbariumlaw14_DiskCrashes.bits7 (fun HT_ HW_ => ?_)
 generalize w35.drew = w36 at HOz5 HOz8 HOz13 HOz21 HOz24 BKz10 BKz26 HB HRz30 hHeld ⊢
 refine pu_ 1 (some 64) HT_ rfl rfl (.inl ⟨by rfl, by intro w'; go_simp; with_reducible rfl⟩) (by simp only [Act.put, sa_, s0_, s1_, i64_w, i32_w]; rfl) ?_
 refine pu_ 2 (some 65) HT_ rfl rfl (.inl ⟨by rfl, by intro w'; go_simp; with_reducible rfl⟩) (by simp only [Act.put, sa_, s0_, s1_, i64_w, i32_w]; rfl) ?_
 refine pu_ 3 (some 66) HT_ rfl rfl (.inl ⟨by rfl, by intro w'; go_simp; with_reducible rfl⟩) (by simp only [Act.put, sa_, s0_, s1_, i64_w, i32_w]; rfl) ?_
 refine tk_ 0 (some 63) HT_ HW_ rfl rfl (.inl ⟨by rfl, by rintro w' ⟨s0, s1⟩; go_simp; with_reducible rfl⟩) hHeld (by simp only [Act.put, sa_, s0_, s1_, i64_w, i32_w]; rfl) ?_
 refine join_ (σ := Value × Value × Nat) 2 #[true, true, true, true, true, true, true, true, true, false, false] (fun s_ => [(67, .tuple #[.agg #[s_.1, s_.2.1], .int .i64 tz37]), (17, .pointer (some ⟨s_.2.2, 0, none⟩)), (62, .tuple #[.agg #[s_.1, s_.2.1], .int .i64 tz37]), (68, .agg #[s_.1, s_.2.1]), (69, .int .i64 tz37)]) (fun s_ w' => (w'.cell? ⟨gbz26, 0, none⟩ = some (.slice Ao31 tz19.length co31) ∧ w'.cell? ⟨gbz26, 1, none⟩ = some (.slice Ao33 tz22.length co33)) ∧ (Kd.R Kd.string 9 w' w.heap.size (fun k_ => some k_ ≠ (.slice Ao31 tz19.length co31 : Value).ownBlock ∧ some k_ ≠ (s_.1 : Value).ownBlock) (.slice Ao21 tz3.length co21) tz3) ∧ (Kd.R k24 24 w' w.heap.size (fun k_ => some k_ ≠ (.slice Ao25 tz11.length co25 : Value).ownBlock ∧ some k_ ≠ (.slice Ao33 tz22.length co33 : Value).ownBlock ∧ some k_ ≠ (s_.2.1 : Value).ownBlock) (.slice Ao23 tz6.length co23) tz6) ∧ (Kd.R k24 24 w' w.heap.size (fun k_ => some k_ ≠ (.slice Ao23 tz6.length co23 : Value).ownBlock ∧ some k_ ≠ (.slice Ao33 tz22.length co33 : Value).ownBlock ∧ some k_ ≠ (s_.2.1 : Value).ownBlock) (.slice Ao25 tz11.length co25) tz11) ∧ (Kd.R Kd.string 9 w' w.heap.size (fun k_ => some k_ ≠ (.slice Ao21 tz3.length co21 : Value).ownBlock ∧ some k_ ≠ (s_.1 : Value).ownBlock) (.slice Ao31 tz19.length co31) tz19) ∧ (Kd.R k24 24 w' w.heap.size (fun k_ => some k_ ≠ (.slice Ao23 tz6.length co23 : Value).ownBlock ∧ some k_ ≠ (.slice Ao25 tz11.length co25 : Value).ownBlock ∧ some k_ ≠ (s_.2.1 : Value).ownBlock) (.slice Ao33 tz22.length co33) tz22) ∧ (Kd.R Kd.string 9 w' w.heap.size (fun k_ => some k_ ≠ (.slice Ao21 tz3.length co21 : Value).ownBlock ∧ some k_ ≠ (.slice Ao31 tz19.length co31 : Value).ownBlock) s_.1 tz31) ∧ (Kd.R k24 24 w' w.heap.size (fun k_ => some k_ ≠ (.slice Ao23 tz6.length co23 : Value).ownBlock ∧ some k_ ≠ (.slice Ao25 tz11.length co25 : Value).ownBlock ∧ some k_ ≠ (.slice Ao33 tz22.length co33 : Value).ownBlock) s_.2.1 tz34) ∧ (w'.heap[gbz10]? = some (.cells #[.slice Ao21 tz3.length co21, .slice Ao23 tz6.length co23] 30 (0, 0))) ∧ (w'.heap[gbz26]? = some (.cells #[.slice Ao31 tz19.length co31, .slice Ao33 tz22.length co33] 30 (0, 0))) ∧ (w'.heap[s_.2.2]? = some (.cells #[.slice none 0 0, .slice none 0 0] 30 (0, 0))) ∧ (w.heap.size ≤ s_.2.2) ∧ (w.heap.size ≤ s_.2.2) ∧ (gbz10 ≠ s_.2.2) ∧ (s_.2.2 ≠ gbz10) ∧ (gbz26 ≠ s_.2.2) ∧ (s_.2.2 ≠ gbz26) ∧ (Below w.heap.size w w')) ?_ ?_
 rotate_left
 ·as_aux_lemma =>
   intro hCont
   refine two_ (i := 4) (j := 8) (Ni := some 67) (Nj := some 17) #[true, true, true, true, true, false, false, false, false, false, false] #[true, true, true, true, false, false, false, false, true, false, false] rfl rfl rfl rfl (two_of HT_.out (by kernel_rfl)) (by decide) (by decide) (fun K hK => ?_) (fun K hK => ?_)
   ·skip
    refine goes_ Try.func25 (by kernel_rfl) rfl #[.agg #[.slice Ao31 tz19.length co31, .slice Ao33 tz22.length co33], .slice A37 yz27.length c37] (by rfl) rfl rfl (by (try simp only [List.map_toArray, List.map_cons, List.map_nil]) <;> rfl) ?_
    with_reducible refine (disk_Do.calls _ _ tz19 _ _ tz22 _ _ yz27 tz31 tz34 tz37 _ ?side1 ?side2 ?side3 ?side4 ?side5 ?side6 A15.out).mono ?_
    (case side1 => repeat (first | exact (Kd.R_reads' HOz21.out).2.2 | (with_reducible refine Kd.C_alloc ?_ _) | (with_reducible refine Kd.C_drewN ?_ _) | (with_reducible refine Kd.C_drew ?_)))
    (case side2 => exact (Kd.R_reads' HOz21.out).2.1)
    (case side3 => repeat (first | exact (Kd.R_reads' HOz24.out).2.2 | (with_reducible refine Kd.C_alloc ?_ _) | (with_reducible refine Kd.C_drewN ?_ _) | (with_reducible refine Kd.C_drew ?_)))
    (case side4 => exact (Kd.R_reads' HOz24.out).2.1)
    (case side5 => repeat (first | exact (by repeat (first | (with_reducible exact HRz30.out) | (with_reducible refine Kd.C_alloc ?_ _) | (with_reducible refine Kd.C_drewN ?_ _) | (with_reducible refine Kd.C_drew ?_) | exact HRz30.out)) | (with_reducible refine Kd.C_alloc ?_ _) | (with_reducible refine Kd.C_drewN ?_ _) | (with_reducible refine Kd.C_drew ?_)))
    (case side6 => exact HCz30.out)
    rintro e w38 ⟨vz32, vz35, rfl, ho0, ho1, hb⟩
    refine ⟨_, rfl, ?_⟩
    have n0_ := am (Kd.R_elder' (pr HOz5) (Kd.R_base ho0) hb)
    have n1_ := am (Kd.R_elder' (pr HOz8) (Kd.R_base ho1) hb)
    have n2_ := am (Kd.R_elder' (pr HOz13) (Kd.R_base ho1) hb)
    have n3_ := am (Kd.R_elder' (pr HOz21) (Kd.R_base ho0) hb)
    have n4_ := am (Kd.R_elder' (pr HOz24) (Kd.R_base ho1) hb)
    have n5_ := am (Kd.R_lower (Kd.R_new' (Kd.R_new' ho0 (Kd.R_lt (pr HOz5))) (Kd.R_lt (pr HOz21))) (below_size (sC_ HB)))
    have n6_ := am (Kd.R_lower (Kd.R_new' (Kd.R_new' (Kd.R_new' ho1 (Kd.R_lt (pr HOz8))) (Kd.R_lt (pr HOz13))) (Kd.R_lt (pr HOz24))) (below_size (sC_ HB)))
    have n7_ := am (blk_below (pk BKz10) hb)
    have n8_ := am (blk_below (pk BKz26) hb)
    have n9_ := am (Kd.C_below (by repeat (first | (with_reducible exact HRz30.out) | (with_reducible refine Kd.C_alloc ?_ _) | (with_reducible refine Kd.C_drewN ?_ _) | (with_reducible refine Kd.C_drew ?_) | exact HRz30.out)) hb)
    have n10_ := am (below_step (sC_ HB) hb)
    clear HOz5 HOz8 HOz13 HOz21 HOz24 BKz10 BKz26 HRz30 HB; have HOz5 := n0_; have HOz8 := n1_; have HOz13 := n2_; have HOz21 := n3_; have HOz24 := n4_; have HOz33 := n5_; have HOz36 := n6_; have BKz10 := n7_; have BKz26 := n8_; have HRz30 := n9_; have HB := n10_; clear n0_ n1_ n2_ n3_ n4_ n5_ n6_ n7_ n8_ n9_ n10_; refine hK.out _ _ (bc2 BKz26) (fun hHeld => ?_)
    clear hK K
    refine norm_ (by show Act.put _ (some 67) _ = _; simp only [Act.put, sa_, s0_, s1_, i64_w, i32_w]; rfl) ?_
    refine pu_ 5 (some 62) HT_ rfl rfl (.inl ⟨by rfl, by intro w'; go_simp; with_reducible rfl⟩) (by simp only [Act.put, sa_, s0_, s1_, i64_w, i32_w]; rfl) ?_
    refine pu_ 6 (some 68) HT_ rfl rfl (.inl ⟨by rfl, by intro w'; go_simp; with_reducible rfl⟩) (by simp only [Act.put, sa_, s0_, s1_, i64_w, i32_w]; rfl) ?_
    refine pu_ 7 (some 69) HT_ rfl rfl (.inl ⟨by rfl, by intro w'; go_simp; with_reducible rfl⟩) (by simp only [Act.put, sa_, s0_, s1_, i64_w, i32_w]; rfl) ?_
    refine on_ 8 (some 17) HT_ rfl rfl (fun K hK => ?_)
    refine box_step ?hg (N := 17) ?hd (cs := #[.slice none 0 0, .slice none 0 0]) (t := 30) ?hr ?_; (case hd => rfl); (case hg => rfl); (case hr => first | (go_simp; done) | (go_simp; rfl))
    intro gbz38 hg w39 hbox hb
    have n0_ := am (Kd.R_below (pr HOz5) hb)
    have n1_ := am (Kd.R_below (pr HOz8) hb)
    have n2_ := am (Kd.R_below (pr HOz13) hb)
    have n3_ := am (Kd.R_below (pr HOz21) hb)
    have n4_ := am (Kd.R_below (pr HOz24) hb)
    have n5_ := am (Kd.R_below (pr HOz33) hb)
    have n6_ := am (Kd.R_below (pr HOz36) hb)
    have n7_ := am (blk_below (pk BKz10) hb)
    have n8_ := am (blk_below (pk BKz26) hb)
    have n9_ := am (Kd.C_below (by repeat (first | (with_reducible exact HRz30.out) | (with_reducible refine Kd.C_alloc ?_ _) | (with_reducible refine Kd.C_drewN ?_ _) | (with_reducible refine Kd.C_drew ?_) | exact HRz30.out)) hb)
    have n10_ := am (below_step (sC_ HB) hb)
    have n11_ := am (hbox)
    have n12_ := ge_ hg (sC_ HB)
    have n13_ := ge_ hg (sC_ HB)
    have n14_ := nl_ hg BKz10
    have n15_ := ng_ hg BKz10
    have n16_ := nl_ hg BKz26
    have n17_ := ng_ hg BKz26
    clear HOz5 HOz8 HOz13 HOz21 HOz24 HOz33 HOz36 BKz10 BKz26 HRz30 HB; have HOz5 := n0_; have HOz8 := n1_; have HOz13 := n2_; have HOz21 := n3_; have HOz24 := n4_; have HOz33 := n5_; have HOz36 := n6_; have BKz10 := n7_; have BKz26 := n8_; have HRz30 := n9_; have HB := n10_; have BKz38 := n11_; have GWz38 := n12_; have GEz38 := n13_; have NBz10_z38 := n14_; have NBz38_z10 := n15_; have NBz26_z38 := n16_; have NBz38_z26 := n17_; clear n0_ n1_ n2_ n3_ n4_ n5_ n6_ n7_ n8_ n9_ n10_ n11_ n12_ n13_ n14_ n15_ n16_ n17_; clear hb hbox hg
    refine hK.out _ _ (bc2 BKz26) (fun hHeld => ?_)
    clear hK K
    refine norm_ (by show Act.put _ (some 17) _ = _; simp only [Act.put, sa_, s0_, s1_, i64_w, i32_w]; rfl) ?_
    exact norm_ (by simp only [putAll, Act.put, List.setIfInBounds_toArray, List.set_cons_zero, List.set_cons_succ]) (hCont (vz32, vz35, gbz38) _ ⟨hHeld, (pr HOz5), (pm HOz8 (fun _ hk => ⟨hk.1.1, ⟨hk.1.2, hk.2⟩⟩)), (pm HOz13 (fun _ hk => ⟨hk.1.1, ⟨hk.1.2, hk.2⟩⟩)), (pr HOz21), (pm HOz24 (fun _ hk => ⟨hk.1.1, ⟨hk.1.2, hk.2⟩⟩)), (pm HOz33 (fun _ hk => ⟨hk.1.2, hk.2⟩)), (pm HOz36 (fun _ hk => ⟨hk.1.1.2, ⟨hk.1.2, hk.2⟩⟩)), (pk BKz10), (pk BKz26), (pk BKz38), GWz38.out, GEz38.out, NBz10_z38.out, NBz38_z10.out, NBz26_z38.out, NBz38_z26.out, (sC_ HB)⟩)
   as_aux_lemma =>
    skip
    refine box_step ?hg (N := 17) ?hd (cs := #[.slice none 0 0, .slice none 0 0]) (t := 30) ?hr ?_; (case hd => rfl); (case hg => rfl); (case hr => first | (go_simp; done) | (go_simp; rfl))
    intro gbz38 hg w38 hbox hb
    have n0_ := am (Kd.R_below (pr HOz5) hb)
    have n1_ := am (Kd.R_below (pr HOz8) hb)
    have n2_ := am (Kd.R_below (pr HOz13) hb)
    have n3_ := am (Kd.R_below (pr HOz21) hb)
    have n4_ := am (Kd.R_below (pr HOz24) hb)
    have n5_ := am (blk_below (pk BKz10) hb)
    have n6_ := am (blk_below (pk BKz26) hb)
    have n7_ := am (Kd.C_below (by repeat (first | (with_reducible exact HRz30.out) | (with_reducible refine Kd.C_alloc ?_ _) | (with_reducible refine Kd.C_drewN ?_ _) | (with_reducible refine Kd.C_drew ?_) | exact HRz30.out)) hb)
    have n8_ := am (below_step (sC_ HB) hb)
    have n9_ := am (hbox)
    have n10_ := ge_ hg (sC_ HB)
    have n11_ := ge_ hg (sC_ HB)
    have n12_ := nl_ hg BKz10
    have n13_ := ng_ hg BKz10
    have n14_ := nl_ hg BKz26
    have n15_ := ng_ hg BKz26
    clear HOz5 HOz8 HOz13 HOz21 HOz24 BKz10 BKz26 HRz30 HB; have HOz5 := n0_; have HOz8 := n1_; have HOz13 := n2_; have HOz21 := n3_; have HOz24 := n4_; have BKz10 := n5_; have BKz26 := n6_; have HRz30 := n7_; have HB := n8_; have BKz38 := n9_; have GWz38 := n10_; have GEz38 := n11_; have NBz10_z38 := n12_; have NBz38_z10 := n13_; have NBz26_z38 := n14_; have NBz38_z26 := n15_; clear n0_ n1_ n2_ n3_ n4_ n5_ n6_ n7_ n8_ n9_ n10_ n11_ n12_ n13_ n14_ n15_; clear hb hbox hg
    refine hK.out _ _ (bc2 BKz26) (fun hHeld => ?_)
    clear hK K
    refine norm_ (by show Act.put _ (some 17) _ = _; simp only [Act.put, sa_, s0_, s1_, i64_w, i32_w]; rfl) ?_
    refine on_ 4 (some 67) HT_ rfl rfl (fun K hK => ?_)
    refine goes_ Try.func25 (by kernel_rfl) rfl #[.agg #[.slice Ao31 tz19.length co31, .slice Ao33 tz22.length co33], .slice A37 yz27.length c37] (by rfl) rfl rfl (by (try simp only [List.map_toArray, List.map_cons, List.map_nil]) <;> rfl) ?_
    with_reducible refine (disk_Do.calls _ _ tz19 _ _ tz22 _ _ yz27 tz31 tz34 tz37 _ ?side1 ?side2 ?side3 ?side4 ?side5 ?side6 A15.out).mono ?_
    (case side1 => repeat (first | exact (Kd.R_reads' HOz21.out).2.2 | (with_reducible refine Kd.C_alloc ?_ _) | (with_reducible refine Kd.C_drewN ?_ _) | (with_reducible refine Kd.C_drew ?_)))
    (case side2 => exact (Kd.R_reads' HOz21.out).2.1)
    (case side3 => repeat (first | exact (Kd.R_reads' HOz24.out).2.2 | (with_reducible refine Kd.C_alloc ?_ _) | (with_reducible refine Kd.C_drewN ?_ _) | (with_reducible refine Kd.C_drew ?_)))
    (case side4 => exact (Kd.R_reads' HOz24.out).2.1)
    (case side5 => repeat (first | exact (by repeat (first | (with_reducible exact HRz30.out) | (with_reducible refine Kd.C_alloc ?_ _) | (with_reducible refine Kd.C_drewN ?_ _) | (with_reducible refine Kd.C_drew ?_) | exact HRz30.out)) | (with_reducible refine Kd.C_alloc ?_ _) | (with_reducible refine Kd.C_drewN ?_ _) | (with_reducible refine Kd.C_drew ?_)))
    (case side6 => exact HCz30.out)
    rintro e w39 ⟨vz32, vz35, rfl, ho0, ho1, hb⟩
    refine ⟨_, rfl, ?_⟩
    have n0_ := am (Kd.R_elder' (pr HOz5) (Kd.R_base ho0) hb)
    have n1_ := am (Kd.R_elder' (pr HOz8) (Kd.R_base ho1) hb)
    have n2_ := am (Kd.R_elder' (pr HOz13) (Kd.R_base ho1) hb)
    have n3_ := am (Kd.R_elder' (pr HOz21) (Kd.R_base ho0) hb)
    have n4_ := am (Kd.R_elder' (pr HOz24) (Kd.R_base ho1) hb)
    have n5_ := am (Kd.R_lower (Kd.R_new' (Kd.R_new' ho0 (Kd.R_lt (pr HOz5))) (Kd.R_lt (pr HOz21))) (below_size (sC_ HB)))
    have n6_ := am (Kd.R_lower (Kd.R_new' (Kd.R_new' (Kd.R_new' ho1 (Kd.R_lt (pr HOz8))) (Kd.R_lt (pr HOz13))) (Kd.R_lt (pr HOz24))) (below_size (sC_ HB)))
    have n7_ := am (blk_below (pk BKz10) hb)
    have n8_ := am (blk_below (pk BKz26) hb)
    have n9_ := am (Kd.C_below (by repeat (first | (with_reducible exact HRz30.out) | (with_reducible refine Kd.C_alloc ?_ _) | (with_reducible refine Kd.C_drewN ?_ _) | (with_reducible refine Kd.C_drew ?_) | exact HRz30.out)) hb)
    have n10_ := am (blk_below (pk BKz38) hb)
    have n11_ := am (below_step (sC_ HB) hb)
    clear HOz5 HOz8 HOz13 HOz21 HOz24 BKz10 BKz26 HRz30 BKz38 HB; have HOz5 := n0_; have HOz8 := n1_; have HOz13 := n2_; have HOz21 := n3_; have HOz24 := n4_; have HOz33 := n5_; have HOz36 := n6_; have BKz10 := n7_; have BKz26 := n8_; have HRz30 := n9_; have BKz38 := n10_; have HB := n11_; clear n0_ n1_ n2_ n3_ n4_ n5_ n6_ n7_ n8_ n9_ n10_ n11_; refine hK.out _ _ (bc2 BKz26) (fun hHeld => ?_)
    clear hK K
    refine norm_ (by show Act.put _ (some 67) _ = _; simp only [Act.put, sa_, s0_, s1_, i64_w, i32_w]; rfl) ?_
    refine pu_ 5 (some 62) HT_ rfl rfl (.inl ⟨by rfl, by intro w'; go_simp; with_reducible rfl⟩) (by simp only [Act.put, sa_, s0_, s1_, i64_w, i32_w]; rfl) ?_
    refine pu_ 6 (some 68) HT_ rfl rfl (.inl ⟨by rfl, by intro w'; go_simp; with_reducible rfl⟩) (by simp only [Act.put, sa_, s0_, s1_, i64_w, i32_w]; rfl) ?_
    refine pu_ 7 (some 69) HT_ rfl rfl (.inl ⟨by rfl, by intro w'; go_simp; with_reducible rfl⟩) (by simp only [Act.put, sa_, s0_, s1_, i64_w, i32_w]; rfl) ?_
    exact norm_ (by simp only [putAll, Act.put, List.setIfInBounds_toArray, List.set_cons_zero, List.set_cons_succ]) (hCont (vz32, vz35, gbz38) _ ⟨hHeld, (pr HOz5), (pm HOz8 (fun _ hk => ⟨hk.1.1, ⟨hk.1.2, hk.2⟩⟩)), (pm HOz13 (fun _ hk => ⟨hk.1.1, ⟨hk.1.2, hk.2⟩⟩)), (pr HOz21), (pm HOz24 (fun _ hk => ⟨hk.1.1, ⟨hk.1.2, hk.2⟩⟩)), (pm HOz33 (fun _ hk => ⟨hk.1.2, hk.2⟩)), (pm HOz36 (fun _ hk => ⟨hk.1.1.2, ⟨hk.1.2, hk.2⟩⟩)), (pk BKz10), (pk BKz26), (pk BKz38), GWz38.out, GEz38.out, NBz10_z38.out, NBz38_z10.out, NBz26_z38.out, NBz38_z26.out, (sC_ HB)⟩)
 rintro ⟨vz32, vz35, gbz38⟩ w40 ⟨hS_, h0_, h1_, h2_, h3_, h4_, h5_, h6_, h7_, h8_, h9_, h10_, h11_, h12_, h13_, h14_, h15_, h16_⟩
 have n0_ : Aside0 (Kd.R Kd.string 9 w40 w.heap.size (fun k_ => some k_ ≠ (.slice Ao31 tz19.length co31 : Value).ownBlock ∧ some k_ ≠ (vz32 : Value).ownBlock) (.slice Ao21 tz3.length co21) tz3) := ⟨h0_⟩
 have n1_ : Aside0 (Kd.R k24 24 w40 w.heap.size (fun k_ => some k_ ≠ (.slice Ao25 tz11.length co25 : Value).ownBlock ∧ some k_ ≠ (.slice Ao33 tz22.length co33 : Value).ownBlock ∧ some k_ ≠ (vz35 : Value).ownBlock) (.slice Ao23 tz6.length co23) tz6) := ⟨h1_⟩
 have n2_ : Aside0 (Kd.R k24 24 w40 w.heap.size (fun k_ => some k_ ≠ (.slice Ao23 tz6.length co23 : Value).ownBlock ∧ some k_ ≠ (.slice Ao33 tz22.length co33 : Value).ownBlock ∧ some k_ ≠ (vz35 : Value).ownBlock) (.slice Ao25 tz11.length co25) tz11) := ⟨h2_⟩
 have n3_ : Aside0 (Kd.R Kd.string 9 w40 w.heap.size (fun k_ => some k_ ≠ (.slice Ao21 tz3.length co21 : Value).ownBlock ∧ some k_ ≠ (vz32 : Value).ownBlock) (.slice Ao31 tz19.length co31) tz19) := ⟨h3_⟩
 have n4_ : Aside0 (Kd.R k24 24 w40 w.heap.size (fun k_ => some k_ ≠ (.slice Ao23 tz6.length co23 : Value).ownBlock ∧ some k_ ≠ (.slice Ao25 tz11.length co25 : Value).ownBlock ∧ some k_ ≠ (vz35 : Value).ownBlock) (.slice Ao33 tz22.length co33) tz22) := ⟨h4_⟩
 have n5_ : Aside0 (Kd.R Kd.string 9 w40 w.heap.size (fun k_ => some k_ ≠ (.slice Ao21 tz3.length co21 : Value).ownBlock ∧ some k_ ≠ (.slice Ao31 tz19.length co31 : Value).ownBlock) vz32 tz31) := ⟨h5_⟩
 have n6_ : Aside0 (Kd.R k24 24 w40 w.heap.size (fun k_ => some k_ ≠ (.slice Ao23 tz6.length co23 : Value).ownBlock ∧ some k_ ≠ (.slice Ao25 tz11.length co25 : Value).ownBlock ∧ some k_ ≠ (.slice Ao33 tz22.length co33 : Value).ownBlock) vz35 tz34) := ⟨h6_⟩
 have n7_ : Aside0 (w40.heap[gbz10]? = some (.cells #[.slice Ao21 tz3.length co21, .slice Ao23 tz6.length co23] 30 (0, 0))) := ⟨h7_⟩
 have n8_ : Aside0 (w40.heap[gbz26]? = some (.cells #[.slice Ao31 tz19.length co31, .slice Ao33 tz22.length co33] 30 (0, 0))) := ⟨h8_⟩
 have n9_ : Aside0 (w40.heap[gbz38]? = some (.cells #[.slice none 0 0, .slice none 0 0] 30 (0, 0))) := ⟨h9_⟩
 have n10_ : Aside0 (w.heap.size ≤ gbz38) := ⟨h10_⟩
 have n11_ : Aside0 (w.heap.size ≤ gbz38) := ⟨h11_⟩
 have n12_ : Aside0 (gbz10 ≠ gbz38) := ⟨h12_⟩
 have n13_ : Aside0 (gbz38 ≠ gbz10) := ⟨h13_⟩
 have n14_ : Aside0 (gbz26 ≠ gbz38) := ⟨h14_⟩
 have n15_ : Aside0 (gbz38 ≠ gbz26) := ⟨h15_⟩
 have n16_ : Aside0 (Below w.heap.size w w40) := ⟨h16_⟩
 clear HOz5 HOz8 HOz13 HOz21 HOz24 BKz10 BKz26 HB h0_ h1_ h2_ h3_ h4_ h5_ h6_ h7_ h8_ h9_ h10_ h11_ h12_ h13_ h14_ h15_ h16_; have HOz5 := n0_; have HOz8 := n1_; have HOz13 := n2_; have HOz21 := n3_; have HOz24 := n4_; have HOz33 := n5_; have HOz36 := n6_; have BKz10 := n7_; have BKz26 := n8_; have BKz38 := n9_; have GWz38 := n10_; have GEz38 := n11_; have NBz10_z38 := n12_; have NBz38_z10 := n13_; have NBz26_z38 := n14_; have NBz38_z26 := n15_; have HB := n16_; clear n0_ n1_ n2_ n3_ n4_ n5_ n6_ n7_ n8_ n9_ n10_ n11_ n12_ n13_ n14_ n15_ n16_
 have hHeld : w40.cell? ⟨gbz26, 0, none⟩ = some (.slice Ao31 tz19.length co31) ∧ w40.cell? ⟨gbz26, 1, none⟩ = some (.slice Ao33 tz22.length co33) := hS_
 obtain ⟨Ao41, co41, eo41⟩ := Kd.R_slice HOz33.out
 (first | subst eo41 | (injection eo41 with f1_ f2_ f3_; have f4_ := f1_.symm; have f5_ := f3_.symm; clear f1_ f2_ f3_; subst f4_; subst f5_))
 obtain ⟨Ao43, co43, eo43⟩ := Kd.R_slice HOz36.out
 (first | subst eo43 | (injection eo43 with f1_ f2_ f3_; have f4_ := f1_.symm; have f5_ := f3_.symm; clear f1_ f2_ f3_; subst f4_; subst f5_))
 refine norm_ (by simp only [putAll, Act.put, List.setIfInBounds_toArray, List.set_cons_zero, List.set_cons_succ]; rfl) ?_
 refine on_ 9 none HT_ rfl rfl (fun K hK => ?_)
 have hs42 : w40.cell? ⟨gbz38, 0, none⟩ = some (.slice none 0 0) := (blk_cell BKz38.out 0).trans rfl
 have hfs42 := blk_frozen BKz38.out 0
 have := NBz10_z38.out
 have := NBz26_z38.out
 have := NBz38_z10.out
 have := NBz38_z26.out
 have hs44 : w40.cell? ⟨gbz38, 1, none⟩ = some (.slice none 0 0) := (blk_cell BKz38.out 1).trans rfl
 have hfs44 := blk_frozen BKz38.out 1
 have := NBz10_z38.out
 have := NBz26_z38.out
 have := NBz38_z10.out
 have := NBz38_z26.out
 refine skip_ (by rfl) rfl (by go_simp; rfl) ?_
 refine hK.out _ _ ⟨((cell_far (p := ⟨gbz38, _, none⟩) NBz26_z38.out _).trans (((cell_far (p := ⟨gbz38, _, none⟩) NBz26_z38.out _).trans (hHeld.1)))), ((cell_far (p := ⟨gbz38, _, none⟩) NBz26_z38.out _).trans (((cell_far (p := ⟨gbz38, _, none⟩) NBz26_z38.out _).trans (hHeld.2))))⟩ (fun hHeld => ?_)
 clear hK K
 refine pu_ 10 (some 18) HT_ rfl rfl (.inl ⟨by rfl, by intro w'; go_simp; with_reducible rfl⟩) (by simp only [Act.put, sa_, s0_, s1_, i64_w, i32_w]; rfl) ?_
 refine done_ (done_of HT_.out (by kernel_rfl)) ?_
 have hnb45 := NBz10_z26.out
 have hnc45 := NBz26_z10.out
 have hnb46 := NBz10_z38.out
 have hnc46 := NBz38_z10.out
 obtain ⟨hcz47_0, hcz47_1⟩ := bc2 BKz10
 obtain ⟨hfz47_0, hfz47_1⟩ := bf2 BKz10
 go_upto_region 9 with (first | ((with_reducible refine gate_callee (f := 25) rfl ?_); refine goesL_ (some 73) rfl rfl Try.func25 (by kernel_rfl) rfl #[.agg #[.slice Ao21 tz3.length co21, .slice Ao23 tz6.length co23], .slice Ao25 tz11.length co25] rfl (by (try simp only [List.map_toArray, List.map_cons, List.map_nil]) <;> rfl) ?_; (with_reducible refine (disk_Do.calls _ _ tz3 _ _ tz6 _ _ tz11 tz39 tz42 tz45 _ ?side1 ?side2 ?side3 ?side4 ?side5 ?side6 A16.out).mono ?_); (case side1 => refine (Kd.R_reads' (e := 9) (base := w.heap.size) (ok := fun k_ => (some k_ ≠ (.slice Ao31 tz19.length co31 : Value).ownBlock ∧ some k_ ≠ (.slice Ao41 tz31.length co41 : Value).ownBlock)) (n := tz3.length) (c := co21) ?_).2.2; exact (by (with_reducible repeat first | apply ra | apply rn | apply rd); exact (rs2 HOz5 BKz38 (by decide)))); (case side2 => exact (Kd.R_reads' HOz5.out).2.1); (case side3 => refine (Kd.R_reads' (e := 24) (base := w.heap.size) (ok := fun k_ => (some k_ ≠ (.slice Ao25 tz11.length co25 : Value).ownBlock ∧ (some k_ ≠ (.slice Ao33 tz22.length co33 : Value).ownBlock ∧ some k_ ≠ (.slice Ao43 tz34.length co43 : Value).ownBlock))) (n := tz6.length) (c := co23) ?_).2.2; exact (by (with_reducible repeat first | apply ra | apply rn | apply rd); exact (rs2 HOz8 BKz38 (by decide)))); (case side4 => exact (Kd.R_reads' HOz8.out).2.1); (case side5 => refine (Kd.R_reads' (e := 24) (base := w.heap.size) (ok := fun k_ => (some k_ ≠ (.slice Ao23 tz6.length co23 : Value).ownBlock ∧ (some k_ ≠ (.slice Ao33 tz22.length co33 : Value).ownBlock ∧ some k_ ≠ (.slice Ao43 tz34.length co43 : Value).ownBlock))) (n := tz11.length) (c := co25) ?_).2.2; exact (by (with_reducible repeat first | apply ra | apply rn | apply rd); exact (rs2 HOz13 BKz38 (by decide)))); (case side6 => exact (Kd.R_reads' HOz13.out).2.1); rintro e w48 ⟨vz40, vz43, rfl, ho0, ho1, hb⟩; refine ⟨_, rfl, ?_⟩; have n0_ := am (Kd.R_elder' (by (with_reducible repeat first | apply ra | apply rn | apply rd); exact (rs2 HOz5 BKz38 (by decide))) (Kd.R_base ho0) hb); have n1_ := am (Kd.R_elder' (by (with_reducible repeat first | apply ra | apply rn | apply rd); exact (rs2 HOz8 BKz38 (by decide))) (Kd.R_base ho1) hb); have n2_ := am (Kd.R_elder' (by (with_reducible repeat first | apply ra | apply rn | apply rd); exact (rs2 HOz13 BKz38 (by decide))) (Kd.R_base ho1) hb); have n3_ := am (Kd.R_elder' (by (with_reducible repeat first | apply ra | apply rn | apply rd); exact (rs2 HOz21 BKz38 (by decide))) (Kd.R_base ho0) hb); have n4_ := am (Kd.R_elder' (by (with_reducible repeat first | apply ra | apply rn | apply rd); exact (rs2 HOz24 BKz38 (by decide))) (Kd.R_base ho1) hb); have n5_ := am (Kd.R_elder' (by (with_reducible repeat first | apply ra | apply rn | apply rd); exact (rs2 HOz33 BKz38 (by decide))) (Kd.R_base ho0) hb); have n6_ := am (Kd.R_elder' (by (with_reducible repeat first | apply ra | apply rn | apply rd); exact (rs2 HOz36 BKz38 (by decide))) (Kd.R_base ho1) hb); have n7_ := am (Kd.R_lower (Kd.R_new' (Kd.R_new' (Kd.R_new' ho0 (Kd.R_lt (by (with_reducible repeat first | apply ra | apply rn | apply rd); exact (rs2 HOz5 BKz38 (by decide))))) (Kd.R_lt (by (with_reducible repeat first | apply ra | apply rn | apply rd); exact (rs2 HOz21 BKz38 (by decide))))) (Kd.R_lt (by (with_reducible repeat first | apply ra | apply rn | apply rd); exact (rs2 HOz33 BKz38 (by decide))))) (below_size (sC_ HB))); have n8_ := am (Kd.R_lower (Kd.R_new' (Kd.R_new' (Kd.R_new' (Kd.R_new' ho1 (Kd.R_lt (by (with_reducible repeat first | apply ra | apply rn | apply rd); exact (rs2 HOz8 BKz38 (by decide))))) (Kd.R_lt (by (with_reducible repeat first | apply ra | apply rn | apply rd); exact (rs2 HOz13 BKz38 (by decide))))) (Kd.R_lt (by (with_reducible repeat first | apply ra | apply rn | apply rd); exact (rs2 HOz24 BKz38 (by decide))))) (Kd.R_lt (by (with_reducible repeat first | apply ra | apply rn | apply rd); exact (rs2 HOz36 BKz38 (by decide))))) (below_size (sC_ HB))); have n9_ := am (blk_below (g := gbz10) (o := .cells #[.slice Ao21 tz3.length co21, .slice Ao23 tz6.length co23] 30 (0, 0)) (by (with_reducible repeat (first | refine blk_drewN ?_ _ | refine blk_drew ?_ | refine blk_alloc ?_ _)); refine blk_far ?_ NBz10_z38.out _; refine blk_far ?_ NBz10_z38.out _; exact pk BKz10) hb); have n10_ := am (blk_below (g := gbz26) (o := .cells #[.slice Ao31 tz19.length co31, .slice Ao33 tz22.length co33] 30 (0, 0)) (by (with_reducible repeat (first | refine blk_drewN ?_ _ | refine blk_drew ?_ | refine blk_alloc ?_ _)); refine blk_far ?_ NBz26_z38.out _; refine blk_far ?_ NBz26_z38.out _; exact pk BKz26) hb); have n11_ := am (blk_below (g := gbz38) (o := .cells #[.slice Ao41 tz31.length co41, .slice Ao43 tz34.length co43] 30 (0, 0)) (by (with_reducible repeat (first | refine blk_drewN ?_ _ | refine blk_drew ?_ | refine blk_alloc ?_ _)); apply bp2; exact pk BKz38) hb); have n12_ := am (below_step (sC_ HB) hb); clear HOz5; clear HOz8; clear HOz13; clear HOz21; clear HOz24; clear HOz33; clear HOz36; clear BKz10; clear BKz26; clear BKz38; clear HB; have HOz5 := n0_; have HOz8 := n1_; have HOz13 := n2_; have HOz21 := n3_; have HOz24 := n4_; have HOz33 := n5_; have HOz36 := n6_; have HOz41 := n7_; have HOz44 := n8_; have BKz10 := n9_; have BKz26 := n10_; have BKz38 := n11_; have HB := n12_; clear n0_ n1_ n2_ n3_ n4_ n5_ n6_ n7_ n8_ n9_ n10_ n11_ n12_; (try clear ho1)) | ((with_reducible refine gate_dst (N := 19) rfl ?_); (try (refine gate_guard (by rfl) ?_; dsimp only)); refine box_event ?hg (N := 19) ?hd (cs := #[.slice none 0 0, .slice none 0 0]) (t := 30) ?hr ?_; (case hd => rfl); (case hg => rfl); (case hr => first | (go_simp; done) | (go_simp; rfl)); intro gbz46 hg w49 hbox hb; have n0_ := am (Kd.R_below (pr HOz5) hb); have n1_ := am (Kd.R_below (pr HOz8) hb); have n2_ := am (Kd.R_below (pr HOz13) hb); have n3_ := am (Kd.R_below (pr HOz21) hb); have n4_ := am (Kd.R_below (pr HOz24) hb); have n5_ := am (Kd.R_below (pr HOz33) hb); have n6_ := am (Kd.R_below (pr HOz36) hb); have n7_ := am (Kd.R_below (pr HOz41) hb); have n8_ := am (Kd.R_below (pr HOz44) hb); have n9_ := am (blk_below (pk BKz10) hb); have n10_ := am (blk_below (pk BKz26) hb); have n11_ := am (blk_below (pk BKz38) hb); have n12_ := am (below_step (sC_ HB) hb); have n13_ := am (hbox); have n14_ := ge_ hg (sC_ HB); have n15_ := ge_ hg (sC_ HB); have n16_ := nl_ hg BKz10; have n17_ := ng_ hg BKz10; have n18_ := nl_ hg BKz26; have n19_ := ng_ hg BKz26; have n20_ := nl_ hg BKz38; have n21_ := ng_ hg BKz38; clear HOz5; clear HOz8; clear HOz13; clear HOz21; clear HOz24; clear HOz33; clear HOz36; clear HOz41; clear HOz44; clear BKz10; clear BKz26; clear BKz38; clear HB; have HOz5 := n0_; have HOz8 := n1_; have HOz13 := n2_; have HOz21 := n3_; have HOz24 := n4_; have HOz33 := n5_; have HOz36 := n6_; have HOz41 := n7_; have HOz44 := n8_; have BKz10 := n9_; have BKz26 := n10_; have BKz38 := n11_; have HB := n12_; have BKz46 := n13_; have GWz46 := n14_; have GEz46 := n15_; have NBz10_z46 := n16_; have NBz46_z10 := n17_; have NBz26_z46 := n18_; have NBz46_z26 := n19_; have NBz38_z46 := n20_; have NBz46_z38 := n21_; clear n0_ n1_ n2_ n3_ n4_ n5_ n6_ n7_ n8_ n9_ n10_ n11_ n12_ n13_ n14_ n15_ n16_ n17_ n18_ n19_ n20_ n21_; clear hb hbox hg; obtain ⟨Ao50, co50, eo50⟩ := Kd.R_slice HOz41.out; subst eo50; have hnb51 := NBz46_z10.out; have hnc51 := NBz10_z46.out; have hnb52 := NBz46_z26.out; have hnc52 := NBz26_z46.out; have hnb53 := NBz46_z38.out; have hnc53 := NBz38_z46.out; obtain ⟨hcz54_0, hcz54_1⟩ := bc2 BKz46; obtain ⟨hfz54_0, hfz54_1⟩ := bf2 BKz46; obtain ⟨Ao55, co55, eo55⟩ := Kd.R_slice HOz44.out; subst eo55))
 (try simp only [Act.put, List.setIfInBounds_toArray, List.set_cons_zero, List.set_cons_succ])
 go_cut [95] (fun v95 wc => ∃ (kq : Nat) (x95_16 : Bool), v95 = .bool x95_16 ∧ Aside0 (columbariumlaw14_DiskCrashes.j0 kq l2 tz1 (wrap64 (1 + tz2)) x95_16 tz39 tz42 = some r) ∧ Aside0 (kq ≤ k) ∧ Aside0 (Kd.R Kd.string 9 wc w.heap.size (fun _ => True) (.slice Ao50 tz39.length co50) tz39) ∧ Aside0 (Kd.R k24 24 wc w.heap.size (fun _ => True) (.slice Ao55 tz42.length co55) tz42) ∧ Aside0 (wc.heap[gbz46]? = some (.cells #[(.slice Ao50 tz39.length co50), (.slice Ao55 tz42.length co55)] 30 (0, 0))) ∧ Aside0 (Below w.heap.size w wc))
 case first =>
  as_aux_lemma =>
   have H := HC17.out
   clear HC17
   by_cases c56 : tz9 = 0
   rotate_left
   ·rw [if_neg c56] at H
    have c56b0 : (tz9 == 0) = false := beq_eq_false_iff_ne.mpr c56
    have c56b1 : (tz9 != 0) = true := bne_iff_ne.mpr c56
    (first | rw [c56b0] | rw [c56b1] | (simp only [i64_w, i32_w]; rw [c56b0]) | skip)
    have H' := am H
    clear H
    go_wp2
    go_meet
    case rel => exact ⟨_, (true), (by first | rfl | (simp; done) | (simp [*]; done)), H', ⟨by first | omega | exact Nat.le_refl _⟩, ⟨by (with_reducible repeat first | apply ra | apply rn | apply rd); exact Kd.R_mono (rf2 (Kd.R_types HOz41.out BKz46.out (by decide)) (fun _ hk => hk.2)) (fun _ hk => trivial)⟩, ⟨by (with_reducible repeat first | apply ra | apply rn | apply rd); exact Kd.R_mono (rf2 (Kd.R_types HOz44.out BKz46.out (by decide)) (fun _ hk => hk.2)) (fun _ hk => trivial)⟩, ⟨by (with_reducible repeat (first | refine blk_drewN ?_ _ | refine blk_drew ?_ | refine blk_alloc ?_ _)); apply bp2; (with_reducible repeat (first | refine blk_drewN ?_ _ | refine blk_drew ?_ | refine blk_alloc ?_ _)); exact BKz46.out⟩, (sB_ HB)⟩
   rw [if_pos c56] at H
   have c56b0 : (tz9 == 0) = true := beq_iff_eq.mpr c56
   have c56b1 : (tz9 != 0) = false := bne_eq_false_iff_eq.mpr c56
   clear c56
   (first | rw [c56b0] | rw [c56b1] | (simp only [i64_w, i32_w]; rw [c56b0]) | skip)
   by_cases c57 : tz25 = 0
   rotate_left
   ·rw [if_neg c57] at H
    have c57b0 : (tz25 == 0) = false := beq_eq_false_iff_ne.mpr c57
    have c57b1 : (tz25 != 0) = true := bne_iff_ne.mpr c57
    have H' := am H
    clear H
    go_wp2
    go_meet
    case rel => exact ⟨_, (true), (by first | rfl | (simp; done) | (simp [*]; done)), H', ⟨by first | omega | exact Nat.le_refl _⟩, ⟨by (with_reducible repeat first | apply ra | apply rn | apply rd); exact Kd.R_mono (rf2 (Kd.R_types HOz41.out BKz46.out (by decide)) (fun _ hk => hk.2)) (fun _ hk => trivial)⟩, ⟨by (with_reducible repeat first | apply ra | apply rn | apply rd); exact Kd.R_mono (rf2 (Kd.R_types HOz44.out BKz46.out (by decide)) (fun _ hk => hk.2)) (fun _ hk => trivial)⟩, ⟨by (with_reducible repeat (first | refine blk_drewN ?_ _ | refine blk_drew ?_ | refine blk_alloc ?_ _)); apply bp2; (with_reducible repeat (first | refine blk_drewN ?_ _ | refine blk_drew ?_ | refine blk_alloc ?_ _)); exact BKz46.out⟩, (sB_ HB)⟩
   rw [if_pos c57] at H
   have c57b0 : (tz25 == 0) = true := beq_iff_eq.mpr c57
   have c57b1 : (tz25 != 0) = false := bne_eq_false_iff_eq.mpr c57
   clear c57
   by_cases c58 : tz37 = 0
   rotate_left
   ·rw [if_neg c58] at H
    have c58b0 : (tz37 == 0) = false := beq_eq_false_iff_ne.mpr c58
    have c58b1 : (tz37 != 0) = true := bne_iff_ne.mpr c58
    have H' := am H
    clear H
    go_wp2
    go_meet
    case rel => exact ⟨_, (true), (by first | rfl | (simp; done) | (simp [*]; done)), H', ⟨by first | omega | exact Nat.le_refl _⟩, ⟨by (with_reducible repeat first | apply ra | apply rn | apply rd); exact Kd.R_mono (rf2 (Kd.R_types HOz41.out BKz46.out (by decide)) (fun _ hk => hk.2)) (fun _ hk => trivial)⟩, ⟨by (with_reducible repeat first | apply ra | apply rn | apply rd); exact Kd.R_mono (rf2 (Kd.R_types HOz44.out BKz46.out (by decide)) (fun _ hk => hk.2)) (fun _ hk => trivial)⟩, ⟨by (with_reducible repeat (first | refine blk_drewN ?_ _ | refine blk_drew ?_ | refine blk_alloc ?_ _)); apply bp2; (with_reducible repeat (first | refine blk_drewN ?_ _ | refine blk_drew ?_ | refine blk_alloc ?_ _)); exact BKz46.out⟩, (sB_ HB)⟩
   rw [if_pos c58] at H
   have c58b0 : (tz37 == 0) = true := beq_iff_eq.mpr c58
   have c58b1 : (tz37 != 0) = false := bne_eq_false_iff_eq.mpr c58
   clear c58
   by_cases c59 : tz45 = 0
   rotate_left
   ·rw [if_neg c59] at H
    have c59b0 : (tz45 == 0) = false := beq_eq_false_iff_ne.mpr c59
    have c59b1 : (tz45 != 0) = true := bne_iff_ne.mpr c59
    have H' := am H
    clear H
    go_wp2
    go_meet
    case rel => exact ⟨_, (true), (by first | rfl | (simp; done) | (simp [*]; done)), H', ⟨by first | omega | exact Nat.le_refl _⟩, ⟨by (with_reducible repeat first | apply ra | apply rn | apply rd); exact Kd.R_mono (rf2 (Kd.R_types HOz41.out BKz46.out (by decide)) (fun _ hk => hk.2)) (fun _ hk => trivial)⟩, ⟨by (with_reducible repeat first | apply ra | apply rn | apply rd); exact Kd.R_mono (rf2 (Kd.R_types HOz44.out BKz46.out (by decide)) (fun _ hk => hk.2)) (fun _ hk => trivial)⟩, ⟨by (with_reducible repeat (first | refine blk_drewN ?_ _ | refine blk_drew ?_ | refine blk_alloc ?_ _)); apply bp2; (with_reducible repeat (first | refine blk_drewN ?_ _ | refine blk_drew ?_ | refine blk_alloc ?_ _)); exact BKz46.out⟩, (sB_ HB)⟩
   rw [if_pos c59] at H
   have c59b0 : (tz45 == 0) = true := beq_iff_eq.mpr c59
   have c59b1 : (tz45 != 0) = false := bne_eq_false_iff_eq.mpr c59
   clear c59
   replace H := ob_ H
   obtain ⟨tz47, A600, H⟩ := H
   replace H : (columbariumlaw14_DiskCrashes.j0 k l2 tz1 (wrap64 (1 + tz2)) (!tz47) tz39 tz42) = some r := H
   have A60 := Aside0.mk A600
   clear A600
   have H' := am H
   clear H
   have hnb61 := NBz38_z10.out
   have hnc61 := NBz10_z38.out
   have hnb62 := NBz38_z26.out
   have hnc62 := NBz26_z38.out
   have hnb63 := NBz38_z46.out
   have hnc63 := NBz46_z38.out
   obtain ⟨hcz64_0, hcz64_1⟩ := bc2 BKz38
   obtain ⟨hfz64_0, hfz64_1⟩ := bf2 BKz38
   have hnb65 := NBz46_z10.out
   have hnc65 := NBz10_z46.out
   have hnb66 := NBz46_z26.out
   have hnc66 := NBz26_z46.out
   obtain ⟨hcz67_0, hcz67_1⟩ := bc2 BKz46
   obtain ⟨hfz67_0, hfz67_1⟩ := bf2 BKz46
   go_wp2_with (first | (go_at_call 15; (with_reducible refine (columbariumref14_Same.calls k _ _ tz31 _ _ tz34 _ _ tz39 _ _ tz42 tz47 _ ?side1 ?side2 ?side3 ?side4 ?side5 ?side6 ?side7 ?side8 A60.out).mono ?_); (case side1 => refine (Kd.R_reads' (e := 9) (base := w.heap.size) (ok := fun k_ => ((some k_ ≠ (.slice Ao21 tz3.length co21 : Value).ownBlock ∧ some k_ ≠ (.slice Ao31 tz19.length co31 : Value).ownBlock) ∧ some k_ ≠ (.slice Ao50 tz39.length co50 : Value).ownBlock)) (n := tz31.length) (c := co41) ?_).2.2; exact (by (with_reducible repeat first | apply ra | apply rn | apply rd); exact (rs2 HOz33 BKz46 (by decide)))); (case side2 => exact (Kd.R_reads' HOz33.out).2.1); (case side3 => refine (Kd.R_reads' (e := 24) (base := w.heap.size) (ok := fun k_ => ((some k_ ≠ (.slice Ao23 tz6.length co23 : Value).ownBlock ∧ (some k_ ≠ (.slice Ao25 tz11.length co25 : Value).ownBlock ∧ some k_ ≠ (.slice Ao33 tz22.length co33 : Value).ownBlock)) ∧ some k_ ≠ (.slice Ao55 tz42.length co55 : Value).ownBlock)) (n := tz34.length) (c := co43) ?_).2.2; exact (by (with_reducible repeat first | apply ra | apply rn | apply rd); exact (rs2 HOz36 BKz46 (by decide)))); (case side4 => exact (Kd.R_reads' HOz36.out).2.1); (case side5 => refine (Kd.R_reads' (e := 9) (base := w.heap.size) (ok := fun k_ => (((True ∧ some k_ ≠ (.slice Ao21 tz3.length co21 : Value).ownBlock) ∧ some k_ ≠ (.slice Ao31 tz19.length co31 : Value).ownBlock) ∧ some k_ ≠ (.slice Ao41 tz31.length co41 : Value).ownBlock)) (n := tz39.length) (c := co50) ?_).2.2; exact (by (with_reducible repeat first | apply ra | apply rn | apply rd); exact (rs2 HOz41 BKz46 (by decide)))); (case side6 => exact (Kd.R_reads' HOz41.out).2.1); (case side7 => refine (Kd.R_reads' (e := 24) (base := w.heap.size) (ok := fun k_ => ((((True ∧ some k_ ≠ (.slice Ao23 tz6.length co23 : Value).ownBlock) ∧ some k_ ≠ (.slice Ao25 tz11.length co25 : Value).ownBlock) ∧ some k_ ≠ (.slice Ao33 tz22.length co33 : Value).ownBlock) ∧ some k_ ≠ (.slice Ao43 tz34.length co43 : Value).ownBlock)) (n := tz42.length) (c := co55) ?_).2.2; exact (by (with_reducible repeat first | apply ra | apply rn | apply rd); exact (rs2 HOz44 BKz46 (by decide)))); (case side8 => exact (Kd.R_reads' HOz44.out).2.1); rintro e w68 ⟨rfl, hb⟩; have n0_ := am (Kd.R_below (by (with_reducible repeat first | apply ra | apply rn | apply rd); exact (rs2 HOz5 BKz46 (by decide))) hb); have n1_ := am (Kd.R_below (by (with_reducible repeat first | apply ra | apply rn | apply rd); exact (rs2 HOz8 BKz46 (by decide))) hb); have n2_ := am (Kd.R_below (by (with_reducible repeat first | apply ra | apply rn | apply rd); exact (rs2 HOz13 BKz46 (by decide))) hb); have n3_ := am (Kd.R_below (by (with_reducible repeat first | apply ra | apply rn | apply rd); exact (rs2 HOz21 BKz46 (by decide))) hb); have n4_ := am (Kd.R_below (by (with_reducible repeat first | apply ra | apply rn | apply rd); exact (rs2 HOz24 BKz46 (by decide))) hb); have n5_ := am (Kd.R_below (by (with_reducible repeat first | apply ra | apply rn | apply rd); exact (rs2 HOz33 BKz46 (by decide))) hb); have n6_ := am (Kd.R_below (by (with_reducible repeat first | apply ra | apply rn | apply rd); exact (rs2 HOz36 BKz46 (by decide))) hb); have n7_ := am (Kd.R_below (by (with_reducible repeat first | apply ra | apply rn | apply rd); exact (rs2 HOz41 BKz46 (by decide))) hb); have n8_ := am (Kd.R_below (by (with_reducible repeat first | apply ra | apply rn | apply rd); exact (rs2 HOz44 BKz46 (by decide))) hb); have n9_ := am (blk_below (g := gbz10) (o := .cells #[.slice Ao21 tz3.length co21, .slice Ao23 tz6.length co23] 30 (0, 0)) (by (with_reducible repeat (first | refine blk_drewN ?_ _ | refine blk_drew ?_ | refine blk_alloc ?_ _)); refine blk_far ?_ NBz10_z46.out _; refine blk_far ?_ NBz10_z46.out _; exact pk BKz10) hb); have n10_ := am (blk_below (g := gbz26) (o := .cells #[.slice Ao31 tz19.length co31, .slice Ao33 tz22.length co33] 30 (0, 0)) (by (with_reducible repeat (first | refine blk_drewN ?_ _ | refine blk_drew ?_ | refine blk_alloc ?_ _)); refine blk_far ?_ NBz26_z46.out _; refine blk_far ?_ NBz26_z46.out _; exact pk BKz26) hb); have n11_ := am (blk_below (g := gbz38) (o := .cells #[.slice Ao41 tz31.length co41, .slice Ao43 tz34.length co43] 30 (0, 0)) (by (with_reducible repeat (first | refine blk_drewN ?_ _ | refine blk_drew ?_ | refine blk_alloc ?_ _)); refine blk_far ?_ NBz38_z46.out _; refine blk_far ?_ NBz38_z46.out _; exact pk BKz38) hb); have n12_ := am (blk_below (g := gbz46) (o := .cells #[.slice Ao50 tz39.length co50, .slice Ao55 tz42.length co55] 30 (0, 0)) (by (with_reducible repeat (first | refine blk_drewN ?_ _ | refine blk_drew ?_ | refine blk_alloc ?_ _)); apply bp2; exact pk BKz46) hb); have n13_ := am (below_step (sC_ HB) hb); clear HOz5; clear HOz8; clear HOz13; clear HOz21; clear HOz24; clear HOz33; clear HOz36; clear HOz41; clear HOz44; clear BKz10; clear BKz26; clear BKz38; clear BKz46; clear HB; have HOz5 := n0_; have HOz8 := n1_; have HOz13 := n2_; have HOz21 := n3_; have HOz24 := n4_; have HOz33 := n5_; have HOz36 := n6_; have HOz41 := n7_; have HOz44 := n8_; have BKz10 := n9_; have BKz26 := n10_; have BKz38 := n11_; have BKz46 := n12_; have HB := n13_; clear n0_ n1_ n2_ n3_ n4_ n5_ n6_ n7_ n8_ n9_ n10_ n11_ n12_ n13_; (try clear hi)))
   go_meet
   case rel => exact ⟨_, (!tz47), (by first | rfl | (simp; done) | (simp [*]; done)), H', ⟨by first | omega | exact Nat.le_refl _⟩, ⟨by (with_reducible repeat first | apply ra | apply rn | apply rd); exact Kd.R_mono HOz41.out (fun _ hk => trivial)⟩, ⟨by (with_reducible repeat first | apply ra | apply rn | apply rd); exact Kd.R_mono HOz44.out (fun _ hk => trivial)⟩, (sk_ BKz46), (sB_ HB)⟩
 clear HC17
 try clear c1
 try clear c2
 try clear p2
 try clear c3
 try clear q3
 try clear c4
 try clear c5
 try clear c6
 try clear p6
 try clear c25
 try clear c37
 try clear q37
 try clear c45
 try clear c46
 try clear c51
 try clear c52
 try clear c53
 try clear c56
 try clear c56b0
 try clear c56b1
 try clear c57
 try clear c57b0
 try clear c57b1
 try clear c58
 try clear c58b0
 try clear c58b1
 try clear c59
 try clear c59b0
 try clear c59b1
 try clear c61
 try clear c62
 try clear c63
 try clear p64
 try clear c65
 try clear c66
 try clear hcz47_0
 try clear hcz47_1
 try clear hcz54_0
 try clear hcz54_1
 try clear hcz64_0
 try clear hcz64_1
 try clear hcz67_0
 try clear hcz67_1
 try clear hfz47_0
 try clear hfz47_1
 try clear hfz54_0
 try clear hfz54_1
 try clear hfz64_0
 try clear hfz64_1
 try clear hfz67_0
 try clear hfz67_1
 try clear q037
 try clear q37
 (try clear HOz5); (try clear HOz8); (try clear HOz13); (try clear HOz21); (try clear HOz24); (try clear HOz33); (try clear HOz36); (try clear HOz41); (try clear HOz44); (try clear BKz10); (try clear BKz26); (try clear BKz38); (try clear BKz46)
 obtain ⟨kq, x95_16, rfl, HA, HJ16, HO_z47000, HO_z47001, BKz46, HB⟩ := hcut
 cases kq with
 | zero => exact absurd HA.out (by simp [columbariumlaw14_DiskCrashes.j0])
 | succ kj16 => ?_
 have H := HA.out
 clear HA
 simp only [columbariumlaw14_DiskCrashes.j0] at H
 by_cases c69 : x95_16 = true
 ·subst c69
  have H1 : (none) = some r := by rw [if_pos rfl] at H; exact H
  clear H
  have H := H1
  clear H1
  exact absurd H (by simp)
 replace c69 := Bool.eq_false_iff.mpr c69
 subst c69
 have H1 : (columbariumlaw14_DiskCrashes.l0 kj16 l2 tz1 (wrap64 (1 + tz2)) ([] : List Int) ([] : List Int) 0 tz39 tz42) = some r := by rw [if_neg (show ¬ (false = true) by decide)] at H; exact H
 clear H
 have H := H1
 clear H1
 have H' := am H
 clear H
 go_wp2
 go_loopg [21, 22, 23] kj16 (fun kq v21 v22 v23 w' => ∃ (x21_2 : List Int) (x22_2 : List Int) (x23_2 : Int), v23 = .int .i64 x23_2 ∧ Aside0 (columbariumlaw14_DiskCrashes.l0 kq l2 tz1 (wrap64 (1 + tz2)) x21_2 x22_2 x23_2 tz39 tz42 = some r) ∧ Aside0 (kq ≤ kj16) ∧ Aside0 (Kd.R (Kd.int .i64) 3 w' w.heap.size (fun k_ => some k_ ≠ (v22 : Value).ownBlock) v21 x21_2) ∧ Aside0 (Kd.R (Kd.int .i64) 3 w' w.heap.size (fun k_ => some k_ ≠ (v21 : Value).ownBlock) v22 x22_2) ∧ Aside0 (Kd.R Kd.string 9 w' w.heap.size (fun _ => True) (.slice Ao50 tz39.length co50) tz39) ∧ Aside0 (Kd.R k24 24 w' w.heap.size (fun _ => True) (.slice Ao55 tz42.length co55) tz42) ∧ Aside0 (w'.heap[gbz46]? = some (.cells #[(.slice Ao50 tz39.length co50), (.slice Ao55 tz42.length co55)] 30 (0, 0))) ∧ Aside0 (Below w.heap.size w w'))
 case atStart => exact ⟨(([] : List Int)), (([] : List Int)), (0), (by first | rfl | (simp; done) | (simp [*]; done)), H', ⟨Nat.le_refl _⟩, ⟨by exact Kd.R_nil _ _ _ _ _⟩, ⟨by exact Kd.R_nil _ _ _ _ _⟩, (sr_ HO_z47000), (sr_ HO_z47001), (sk_ BKz46), (sB_ HB)⟩
 clear H'
 try clear c1
 try clear c2
 try clear p2
 try clear c3
 try clear q3
 try clear c4
 try clear c5
 try clear c6
 try clear p6
 try clear c25
 try clear c37
 try clear q37
 try clear c45
 try clear c46
 try clear c51
 try clear c52
 try clear c53
 try clear c56
 try clear c56b0
 try clear c56b1
 try clear c57
 try clear c57b0
 try clear c57b1
 try clear c58
 try clear c58b0
 try clear c58b1
 try clear c59
 try clear c59b0
 try clear c59b1
 try clear c61
 try clear c62
 try clear c63
 try clear p64
 try clear c65
 try clear c66
 try clear c69
 try clear hcz47_0
 try clear hcz47_1
 try clear hcz54_0
 try clear hcz54_1
 try clear hcz64_0
 try clear hcz64_1
 try clear hcz67_0
 try clear hcz67_1
 try clear hfz47_0
 try clear hfz47_1
 try clear hfz54_0
 try clear hfz54_1
 try clear hfz64_0
 try clear hfz64_1
 try clear hfz67_0
 try clear hfz67_1
 try clear p2
 try clear p6
 try clear p64
 try clear q037
 try clear q3
 try clear q37
 (try clear HO_z47000); (try clear HO_z47001); (try clear BKz46)
 obtain ⟨x21_2, x22_2, x23_2, rfl, HA, HK2, HO_21, HO_22, HO_z47000, HO_z47001, BKz46, HB⟩ := hrel
 cases gk with
 | zero => exact absurd HA.out (by simp [columbariumlaw14_DiskCrashes.l0])
 | succ k2 => ?_
 have H := HA.out
 clear HA
 simp only [columbariumlaw14_DiskCrashes.l0] at H
 by_cases c70 : x23_2 < (tz42.length : Int)
 ·rw [if_pos c70] at H
  have c70b0 : decide (x23_2 < (tz42.length : Int)) = true := decide_eq_true c70
  clear c70
  by_cases c71 : x21_2.length < 17592186044416
  rotate_left
  ·rw [if_neg c71] at H
   exact absurd H (by simp)
  rw [if_pos c71] at H
  have LMc71 := Aside0.mk c71
  clear c71
  obtain ⟨yz48, hyz48⟩ : ∃ y_ : List Int, y_ = (x21_2 ++ [wrap64 (64 + x23_2)]) := ⟨_, rfl⟩
  replace H : (if x23_2 < (l2.length : Int) then (if 0 ≤ x23_2 then ((columbariumlaw14_pick.f (rd l2 x23_2) 65).bind fun tz52 => (if x22_2.length < 17592186044416 then (columbariumlaw14_DiskCrashes.l0 k2 l2 tz1 (wrap64 (1 + tz2)) yz48 (x22_2 ++ [tz52]) (wrap64 (x23_2 + 1)) tz39 tz42) else (none))) else (none)) else (if x22_2.length < 17592186044416 then (columbariumlaw14_DiskCrashes.l0 k2 l2 tz1 (wrap64 (1 + tz2)) yz48 (x22_2 ++ [0]) (wrap64 (x23_2 + 1)) tz39 tz42) else (none))) = some r := by first | (rw [hyz48]; with_reducible exact H) | (have H2_ := (Option.bind_some _ _).symm.trans H; rw [hyz48]; with_reducible exact H2_) | (have H2_ := (Option.bind_some _ _).symm.trans H; with_reducible exact H2_) | with_reducible exact H | (rw [hyz48]; exact H) | exact H
  have Nyz48 := am hyz48
  clear hyz48
  by_cases c72 : x23_2 < (l2.length : Int)
  rotate_left
  ·rw [if_neg c72] at H
   have c72b0 : decide (x23_2 < (l2.length : Int)) = false := decide_eq_false c72
   clear c72
   by_cases c79 : x22_2.length < 17592186044416
   rotate_left
   ·rw [if_neg c79] at H
    exact absurd H (by simp)
   rw [if_pos c79] at H
   have LMc79 := Aside0.mk c79
   clear c79
   obtain ⟨yz56, hyz56⟩ : ∃ y_ : List Int, y_ = (x22_2 ++ [0]) := ⟨_, rfl⟩
   replace H : (columbariumlaw14_DiskCrashes.l0 k2 l2 tz1 (wrap64 (1 + tz2)) yz48 yz56 (wrap64 (x23_2 + 1)) tz39 tz42) = some r := by first | (rw [hyz56]; with_reducible exact H) | (have H2_ := (Option.bind_some _ _).symm.trans H; rw [hyz56]; with_reducible exact H2_) | (have H2_ := (Option.bind_some _ _).symm.trans H; with_reducible exact H2_) | with_reducible exact H | (rw [hyz56]; exact H) | exact H
   have Nyz56 := am hyz56
   clear hyz56
   have H' := am H
   clear H
   obtain ⟨hcz80_0, hcz80_1⟩ := bc2 BKz46
   obtain ⟨hfz80_0, hfz80_1⟩ := bf2 BKz46
   go_wp2_with (first | ((with_reducible refine gate_builtin (b := .append) (xs := #[.tmp 103, .tmp 106]) rfl ?_); (try (refine gate_guard (by rfl) ?_; dsimp only)); at_builtin; refine Kd.R_append (Kd.int .i64) (w0 := w) w.heap.size rfl (.tmp 103) (.tmp 106) 25 3 (.int .i64 0) 8 rfl Try.underlying25 info3 rfl (by decide) (by omega) u21 x21_2 (wrap64 (64 + x23_2)) [.int .i64 (wrap64 (64 + x23_2))] (fun k_ => some k_ ≠ (u22 : Value).ownBlock) (fun _ => False) rfl rfl ?aP (fun _ hk => hk.elim) ?aF ?aO ?aB ?aS ?aL ?_; (case aP => exact rfl); (case aB => exact (sC_ HB)); (case aF => exact (fun k_ hk => Kd.fresh' (Kd.R_lt (pr HO_22)) k_ hk)); (case aO => exact (pr HO_21)); (case aS => exact (below_size (sC_ HB))); (case aL => have := LMc71.out; omega); intro vz49 w81 ho hb hg hat; rw [← Nyz48.out] at ho; have n0_ := am (Kd.R_after (ok := (fun _ => True)) (pm HO_22 (fun _ hk => ⟨trivial, hk⟩)) hg hat); have n1_ := am (Kd.R_over' (pr HO_z47000) (Kd.R_typed (pr HO_21)) (by decide) hg); have n2_ := am (Kd.R_over' (pr HO_z47001) (Kd.R_typed (pr HO_21)) (by decide) hg); have n3_ := am (blk_grown (pk BKz46) hg (Kd.R_ne HO_21.out BKz46.out (by decide))); have n4_ := am (hb); have n5_ := am (ho); clear HO_22; clear HO_z47000; clear HO_z47001; clear BKz46; clear HB; clear HO_21; have HO_22 := n0_; have HO_z47000 := n1_; have HO_z47001 := n2_; have BKz46 := n3_; have HB := n4_; have HOz50 := n5_; clear n0_ n1_ n2_ n3_ n4_ n5_; clear ho hb hg hat) | ((with_reducible refine gate_builtin (b := .append) (xs := #[.tmp 117, .tmp 119]) rfl ?_); (try (refine gate_guard (by rfl) ?_; dsimp only)); at_builtin; refine Kd.R_append (Kd.int .i64) (w0 := w) w.heap.size rfl (.tmp 117) (.tmp 119) 25 3 (.int .i64 0) 8 rfl Try.underlying25 info3 rfl (by decide) (by omega) u22 x22_2 0 [.int .i64 0] (fun k_ => some k_ ≠ (vz49 : Value).ownBlock) (fun _ => False) rfl rfl ?aP (fun _ hk => hk.elim) ?aF ?aO ?aB ?aS ?aL ?_; (case aP => exact rfl); (case aB => exact (sC_ HB)); (case aF => exact (fun k_ hk => Kd.fresh' (Kd.R_lt (pr HOz50)) k_ hk)); (case aO => exact (pm HO_22 (fun _ hk => hk.2))); (case aS => exact (below_size (sC_ HB))); (case aL => have := LMc79.out; omega); intro vz57 w82 ho hb hg hat; rw [← Nyz56.out] at ho; have n0_ := am (Kd.R_over' (pr HO_z47000) (Kd.R_typed (pr HO_22)) (by decide) hg); have n1_ := am (Kd.R_over' (pr HO_z47001) (Kd.R_typed (pr HO_22)) (by decide) hg); have n2_ := am (blk_grown (pk BKz46) hg (Kd.R_ne HO_22.out BKz46.out (by decide))); have n3_ := am (Kd.R_after (ok := (fun _ => True)) (pm HOz50 (fun _ hk => ⟨trivial, hk⟩)) hg hat); have n4_ := am (hb); have n5_ := am (ho); clear HO_z47000; clear HO_z47001; clear BKz46; clear HOz50; clear HB; clear HO_22; have HO_z47000 := n0_; have HO_z47001 := n1_; have BKz46 := n2_; have HOz50 := n3_; have HB := n4_; have HOz58 := n5_; clear n0_ n1_ n2_ n3_ n4_ n5_; clear ho hb hg hat))
   go_roundg k2
   case measure => have := HJ16.out; have := HK2.out; omega
   case rel => exact ⟨(yz48), (yz56), (wrap64 (x23_2 + 1)), (by first | rfl | (simp; done) | (simp [*]; done)), H', ⟨by have := HJ16.out; have := HK2.out; omega⟩, ⟨by (with_reducible repeat first | apply ra | apply rn | apply rd); exact Kd.R_mono HOz50.out (fun _ hk => hk.2)⟩, (sr_ HOz58), (sr_ HO_z47000), (sr_ HO_z47001), (sk_ BKz46), (sB_ HB)⟩
  as_aux_lemma =>
   rw [if_pos c72] at H
   have c72b0 : decide (x23_2 < (l2.length : Int)) = true := decide_eq_true c72
   clear c72
   by_cases c73 : 0 ≤ x23_2
   rotate_left
   ·rw [if_neg c73] at H
    exact absurd H (by simp)
   rw [if_pos c73] at H
   have c73b0 : decide (0 ≤ x23_2) = true := decide_eq_true c73
   clear c73
   replace H := ob_ H
   obtain ⟨tz52, A740, H⟩ := H
   replace H : (if x22_2.length < 17592186044416 then (columbariumlaw14_DiskCrashes.l0 k2 l2 tz1 (wrap64 (1 + tz2)) yz48 (x22_2 ++ [tz52]) (wrap64 (x23_2 + 1)) tz39 tz42) else (none)) = some r := H
   have A74 := Aside0.mk A740
   clear A740
   by_cases c75 : x22_2.length < 17592186044416
   rotate_left
   ·rw [if_neg c75] at H
    exact absurd H (by simp)
   rw [if_pos c75] at H
   have LMc75 := Aside0.mk c75
   clear c75
   obtain ⟨yz53, hyz53⟩ : ∃ y_ : List Int, y_ = (x22_2 ++ [tz52]) := ⟨_, rfl⟩
   replace H : (columbariumlaw14_DiskCrashes.l0 k2 l2 tz1 (wrap64 (1 + tz2)) yz48 yz53 (wrap64 (x23_2 + 1)) tz39 tz42) = some r := by first | (rw [hyz53]; with_reducible exact H) | (have H2_ := (Option.bind_some _ _).symm.trans H; rw [hyz53]; with_reducible exact H2_) | (have H2_ := (Option.bind_some _ _).symm.trans H; with_reducible exact H2_) | with_reducible exact H | (rw [hyz53]; exact H) | exact H
   have Nyz53 := am hyz53
   clear hyz53
   have H' := am H
   clear H
   obtain ⟨hcz76_0, hcz76_1⟩ := bc2 BKz46
   obtain ⟨hfz76_0, hfz76_1⟩ := bf2 BKz46
   go_wp2_with (first | ((with_reducible refine gate_builtin (b := .append) (xs := #[.tmp 103, .tmp 106]) rfl ?_); (try (refine gate_guard (by rfl) ?_; dsimp only)); at_builtin; refine Kd.R_append (Kd.int .i64) (w0 := w) w.heap.size rfl (.tmp 103) (.tmp 106) 25 3 (.int .i64 0) 8 rfl Try.underlying25 info3 rfl (by decide) (by omega) u21 x21_2 (wrap64 (64 + x23_2)) [.int .i64 (wrap64 (64 + x23_2))] (fun k_ => some k_ ≠ (u22 : Value).ownBlock) (fun _ => False) rfl rfl ?aP (fun _ hk => hk.elim) ?aF ?aO ?aB ?aS ?aL ?_; (case aP => exact rfl); (case aB => exact (sC_ HB)); (case aF => exact (fun k_ hk => Kd.fresh' (Kd.R_lt (pr HO_22)) k_ hk)); (case aO => exact (pr HO_21)); (case aS => exact (below_size (sC_ HB))); (case aL => have := LMc71.out; omega); intro vz49 w77 ho hb hg hat; rw [← Nyz48.out] at ho; have n0_ := am (Kd.R_after (ok := (fun _ => True)) (pm HO_22 (fun _ hk => ⟨trivial, hk⟩)) hg hat); have n1_ := am (Kd.R_over' (pr HO_z47000) (Kd.R_typed (pr HO_21)) (by decide) hg); have n2_ := am (Kd.R_over' (pr HO_z47001) (Kd.R_typed (pr HO_21)) (by decide) hg); have n3_ := am (blk_grown (pk BKz46) hg (Kd.R_ne HO_21.out BKz46.out (by decide))); have n4_ := am (hb); have n5_ := am (ho); clear HO_22; clear HO_z47000; clear HO_z47001; clear BKz46; clear HB; clear HO_21; have HO_22 := n0_; have HO_z47000 := n1_; have HO_z47001 := n2_; have BKz46 := n3_; have HB := n4_; have HOz50 := n5_; clear n0_ n1_ n2_ n3_ n4_ n5_; clear ho hb hg hat; have pz51 : 0 ≤ (x23_2 : Int) := of_decide_eq_true (by first | (with_reducible assumption) | assumption); have qz51 : x23_2 < (l2.length : Int) := of_decide_eq_true (by first | (with_reducible assumption) | assumption); obtain ⟨adz51, ez51, hxz51_0⟩ := Kd.at_int HR2.out x23_2 pz51 qz51; cases ez51; replace hxz51_0 := (HB.out.cell (World.block_lt_of_cell? w _ hxz51_0)).trans hxz51_0; replace pz51 := eq_true pz51; replace qz51 := eq_true qz51) | ((with_reducible refine gate_callee (f := 16) rfl ?_); refine goesL_ (some 116) rfl rfl Try.func16 (by kernel_rfl) rfl #[.int .i64 (rd l2 x23_2), .int .i64 65] rfl (by (try simp only [List.map_toArray, List.map_cons, List.map_nil]) <;> rfl) ?_; (with_reducible refine (columbariumlaw14_pick.calls (rd l2 x23_2) 65 tz52 _ A74.out).mono ?_); rintro e w' ⟨rfl, ⟨nd, rfl⟩⟩; refine ⟨_, rfl, ?_⟩) | ((with_reducible refine gate_builtin (b := .append) (xs := #[.tmp 117, .tmp 119]) rfl ?_); (try (refine gate_guard (by rfl) ?_; dsimp only)); at_builtin; refine Kd.R_append (Kd.int .i64) (w0 := w) w.heap.size rfl (.tmp 117) (.tmp 119) 25 3 (.int .i64 0) 8 rfl Try.underlying25 info3 rfl (by decide) (by omega) u22 x22_2 tz52 [.int .i64 tz52] (fun k_ => some k_ ≠ (vz49 : Value).ownBlock) (fun _ => False) rfl rfl ?aP (fun _ hk => hk.elim) ?aF ?aO ?aB ?aS ?aL ?_; (case aP => exact rfl); (case aB => exact (sC_ HB)); (case aF => exact (fun k_ hk => Kd.fresh' (Kd.R_lt (pr HOz50)) k_ hk)); (case aO => exact (pm HO_22 (fun _ hk => hk.2))); (case aS => exact (below_size (sC_ HB))); (case aL => have := LMc75.out; omega); intro vz54 w78 ho hb hg hat; rw [← Nyz53.out] at ho; have n0_ := am (Kd.R_over' (pr HO_z47000) (Kd.R_typed (pr HO_22)) (by decide) hg); have n1_ := am (Kd.R_over' (pr HO_z47001) (Kd.R_typed (pr HO_22)) (by decide) hg); have n2_ := am (blk_grown (pk BKz46) hg (Kd.R_ne HO_22.out BKz46.out (by decide))); have n3_ := am (Kd.R_after (ok := (fun _ => True)) (pm HOz50 (fun _ hk => ⟨trivial, hk⟩)) hg hat); have n4_ := am (hb); have n5_ := am (ho); clear HO_z47000; clear HO_z47001; clear BKz46; clear HOz50; clear HB; clear HO_22; have HO_z47000 := n0_; have HO_z47001 := n1_; have BKz46 := n2_; have HOz50 := n3_; have HB := n4_; have HOz55 := n5_; clear n0_ n1_ n2_ n3_ n4_ n5_; clear ho hb hg hat))
   go_roundg k2
   case measure => have := HJ16.out; have := HK2.out; omega
   case rel => exact ⟨(yz48), (yz53), (wrap64 (x23_2 + 1)), (by first | rfl | (simp; done) | (simp [*]; done)), H', ⟨by have := HJ16.out; have := HK2.out; omega⟩, ⟨by (with_reducible repeat first | apply ra | apply rn | apply rd); exact Kd.R_mono HOz50.out (fun _ hk => hk.2)⟩, (sr_ HOz55), (sr_ HO_z47000), (sr_ HO_z47001), (sk_ BKz46), (sB_ HB)⟩
 rw [if_neg c70] at H
 have c70b0 : decide (x23_2 < (tz42.length : Int)) = false := decide_eq_false c70
 clear c70
 replace H := ob_ H
 obtain ⟨⟨tz59, tz62, tz65⟩, A830, H⟩ := H
 replace H : ((disk_Do.f tz39 tz42 (([(⟨true, 0, (⟨#[]⟩ : ByteArray)⟩ : S24)] : List (S24)))).bind fun btz70 => ((disk_Crash.f tz39 tz42 ([] : List Int)).bind fun btz78 => ((disk_Crash.f tz39 tz42 x22_2).bind fun btz86 => (if tz65 = 0 then (if btz70.2.2 = 0 then (if btz78.2.2 = 0 then (if btz86.2.2 = 0 then ((columbariumref14_Same.f k2 tz59 tz62 btz70.1 btz70.2.1).bind fun tz94 => (if tz94 = true then (if (btz78.2.1.length : Int) = 0 then (if (btz78.1.length : Int) = (wrap64 (1 + tz2)) then (if (btz86.1.length : Int) = (wrap64 (1 + tz2)) then (columbariumlaw14_DiskCrashes.j2 k2 tz1 (wrap64 (1 + tz2)) ((tz39.length : Int) != (wrap64 (1 + tz2))) tz39 tz42 btz78.1 btz78.2.1 btz86.1 btz86.2.1) else (columbariumlaw14_DiskCrashes.j2 k2 tz1 (wrap64 (1 + tz2)) true tz39 tz42 btz78.1 btz78.2.1 btz86.1 btz86.2.1)) else (columbariumlaw14_DiskCrashes.j2 k2 tz1 (wrap64 (1 + tz2)) true tz39 tz42 btz78.1 btz78.2.1 btz86.1 btz86.2.1)) else (columbariumlaw14_DiskCrashes.j2 k2 tz1 (wrap64 (1 + tz2)) true tz39 tz42 btz78.1 btz78.2.1 btz86.1 btz86.2.1)) else (columbariumlaw14_DiskCrashes.j2 k2 tz1 (wrap64 (1 + tz2)) true tz39 tz42 btz78.1 btz78.2.1 btz86.1 btz86.2.1))) else (columbariumlaw14_DiskCrashes.j2 k2 tz1 (wrap64 (1 + tz2)) true tz39 tz42 btz78.1 btz78.2.1 btz86.1 btz86.2.1)) else (columbariumlaw14_DiskCrashes.j2 k2 tz1 (wrap64 (1 + tz2)) true tz39 tz42 btz78.1 btz78.2.1 btz86.1 btz86.2.1)) else (columbariumlaw14_DiskCrashes.j2 k2 tz1 (wrap64 (1 + tz2)) true tz39 tz42 btz78.1 btz78.2.1 btz86.1 btz86.2.1)) else (columbariumlaw14_DiskCrashes.j2 k2 tz1 (wrap64 (1 + tz2)) true tz39 tz42 btz78.1 btz78.2.1 btz86.1 btz86.2.1))))) = some r := H
 have A83 := Aside0.mk A830
 clear A830
 obtain ⟨yz67, hyz67⟩ : ∃ y_ : List (S24), y_ = (([(⟨true, 0, (⟨#[]⟩ : ByteArray)⟩ : S24)] : List (S24))) := ⟨_, rfl⟩
 replace H : ((disk_Do.f tz39 tz42 yz67).bind fun btz70 => ((disk_Crash.f tz39 tz42 ([] : List Int)).bind fun btz78 => ((disk_Crash.f tz39 tz42 x22_2).bind fun btz86 => (if tz65 = 0 then (if btz70.2.2 = 0 then (if btz78.2.2 = 0 then (if btz86.2.2 = 0 then ((columbariumref14_Same.f k2 tz59 tz62 btz70.1 btz70.2.1).bind fun tz94 => (if tz94 = true then (if (btz78.2.1.length : Int) = 0 then (if (btz78.1.length : Int) = (wrap64 (1 + tz2)) then (if (btz86.1.length : Int) = (wrap64 (1 + tz2)) then (columbariumlaw14_DiskCrashes.j2 k2 tz1 (wrap64 (1 + tz2)) ((tz39.length : Int) != (wrap64 (1 + tz2))) tz39 tz42 btz78.1 btz78.2.1 btz86.1 btz86.2.1) else (columbariumlaw14_DiskCrashes.j2 k2 tz1 (wrap64 (1 + tz2)) true tz39 tz42 btz78.1 btz78.2.1 btz86.1 btz86.2.1)) else (columbariumlaw14_DiskCrashes.j2 k2 tz1 (wrap64 (1 + tz2)) true tz39 tz42 btz78.1 btz78.2.1 btz86.1 btz86.2.1)) else (columbariumlaw14_DiskCrashes.j2 k2 tz1 (wrap64 (1 + tz2)) true tz39 tz42 btz78.1 btz78.2.1 btz86.1 btz86.2.1)) else (columbariumlaw14_DiskCrashes.j2 k2 tz1 (wrap64 (1 + tz2)) true tz39 tz42 btz78.1 btz78.2.1 btz86.1 btz86.2.1))) else (columbariumlaw14_DiskCrashes.j2 k2 tz1 (wrap64 (1 + tz2)) true tz39 tz42 btz78.1 btz78.2.1 btz86.1 btz86.2.1)) else (columbariumlaw14_DiskCrashes.j2 k2 tz1 (wrap64 (1 + tz2)) true tz39 tz42 btz78.1 btz78.2.1 btz86.1 btz86.2.1)) else (columbariumlaw14_DiskCrashes.j2 k2 tz1 (wrap64 (1 + tz2)) true tz39 tz42 btz78.1 btz78.2.1 btz86.1 btz86.2.1)) else (columbariumlaw14_DiskCrashes.j2 k2 tz1 (wrap64 (1 + tz2)) true tz39 tz42 btz78.1 btz78.2.1 btz86.1 btz86.2.1))))) = some r := by first | (rw [hyz67]; with_reducible exact H) | (have H2_ := (Option.bind_some _ _).symm.trans H; rw [hyz67]; with_reducible exact H2_) | (have H2_ := (Option.bind_some _ _).symm.trans H; with_reducible exact H2_) | with_reducible exact H | (rw [hyz67]; exact H) | exact H
 have Nyz67 := am hyz67
 clear hyz67
 replace H := ob_ H
 obtain ⟨⟨tz70, tz73, tz76⟩, A840, H⟩ := H
 replace H : ((disk_Crash.f tz39 tz42 ([] : List Int)).bind fun btz78 => ((disk_Crash.f tz39 tz42 x22_2).bind fun btz86 => (if tz65 = 0 then (if tz76 = 0 then (if btz78.2.2 = 0 then (if btz86.2.2 = 0 then ((columbariumref14_Same.f k2 tz59 tz62 tz70 tz73).bind fun tz94 => (if tz94 = true then (if (btz78.2.1.length : Int) = 0 then (if (btz78.1.length : Int) = (wrap64 (1 + tz2)) then (if (btz86.1.length : Int) = (wrap64 (1 + tz2)) then (columbariumlaw14_DiskCrashes.j2 k2 tz1 (wrap64 (1 + tz2)) ((tz39.length : Int) != (wrap64 (1 + tz2))) tz39 tz42 btz78.1 btz78.2.1 btz86.1 btz86.2.1) else (columbariumlaw14_DiskCrashes.j2 k2 tz1 (wrap64 (1 + tz2)) true tz39 tz42 btz78.1 btz78.2.1 btz86.1 btz86.2.1)) else (columbariumlaw14_DiskCrashes.j2 k2 tz1 (wrap64 (1 + tz2)) true tz39 tz42 btz78.1 btz78.2.1 btz86.1 btz86.2.1)) else (columbariumlaw14_DiskCrashes.j2 k2 tz1 (wrap64 (1 + tz2)) true tz39 tz42 btz78.1 btz78.2.1 btz86.1 btz86.2.1)) else (columbariumlaw14_DiskCrashes.j2 k2 tz1 (wrap64 (1 + tz2)) true tz39 tz42 btz78.1 btz78.2.1 btz86.1 btz86.2.1))) else (columbariumlaw14_DiskCrashes.j2 k2 tz1 (wrap64 (1 + tz2)) true tz39 tz42 btz78.1 btz78.2.1 btz86.1 btz86.2.1)) else (columbariumlaw14_DiskCrashes.j2 k2 tz1 (wrap64 (1 + tz2)) true tz39 tz42 btz78.1 btz78.2.1 btz86.1 btz86.2.1)) else (columbariumlaw14_DiskCrashes.j2 k2 tz1 (wrap64 (1 + tz2)) true tz39 tz42 btz78.1 btz78.2.1 btz86.1 btz86.2.1)) else (columbariumlaw14_DiskCrashes.j2 k2 tz1 (wrap64 (1 + tz2)) true tz39 tz42 btz78.1 btz78.2.1 btz86.1 btz86.2.1)))) = some r := H
 have A84 := Aside0.mk A840
 clear A840
 replace H := ob_ H
 obtain ⟨⟨tz78, tz81, tz84⟩, A850, H⟩ := H
 replace H : ((disk_Crash.f tz39 tz42 x22_2).bind fun btz86 => (if tz65 = 0 then (if tz76 = 0 then (if tz84 = 0 then (if btz86.2.2 = 0 then ((columbariumref14_Same.f k2 tz59 tz62 tz70 tz73).bind fun tz94 => (if tz94 = true then (if (tz81.length : Int) = 0 then (if (tz78.length : Int) = (wrap64 (1 + tz2)) then (if (btz86.1.length : Int) = (wrap64 (1 + tz2)) then (columbariumlaw14_DiskCrashes.j2 k2 tz1 (wrap64 (1 + tz2)) ((tz39.length : Int) != (wrap64 (1 + tz2))) tz39 tz42 tz78 tz81 btz86.1 btz86.2.1) else (columbariumlaw14_DiskCrashes.j2 k2 tz1 (wrap64 (1 + tz2)) true tz39 tz42 tz78 tz81 btz86.1 btz86.2.1)) else (columbariumlaw14_DiskCrashes.j2 k2 tz1 (wrap64 (1 + tz2)) true tz39 tz42 tz78 tz81 btz86.1 btz86.2.1)) else (columbariumlaw14_DiskCrashes.j2 k2 tz1 (wrap64 (1 + tz2)) true tz39 tz42 tz78 tz81 btz86.1 btz86.2.1)) else (columbariumlaw14_DiskCrashes.j2 k2 tz1 (wrap64 (1 + tz2)) true tz39 tz42 tz78 tz81 btz86.1 btz86.2.1))) else (columbariumlaw14_DiskCrashes.j2 k2 tz1 (wrap64 (1 + tz2)) true tz39 tz42 tz78 tz81 btz86.1 btz86.2.1)) else (columbariumlaw14_DiskCrashes.j2 k2 tz1 (wrap64 (1 + tz2)) true tz39 tz42 tz78 tz81 btz86.1 btz86.2.1)) else (columbariumlaw14_DiskCrashes.j2 k2 tz1 (wrap64 (1 + tz2)) true tz39 tz42 tz78 tz81 btz86.1 btz86.2.1)) else (columbariumlaw14_DiskCrashes.j2 k2 tz1 (wrap64 (1 + tz2)) true tz39 tz42 tz78 tz81 btz86.1 btz86.2.1))) = some r := H
 have A85 := Aside0.mk A850
 clear A850
 replace H := ob_ H
 obtain ⟨⟨tz86, tz89, tz92⟩, A860, H⟩ := H
 replace H : (if tz65 = 0 then (if tz76 = 0 then (if tz84 = 0 then (if tz92 = 0 then ((columbariumref14_Same.f k2 tz59 tz62 tz70 tz73).bind fun tz94 => (if tz94 = true then (if (tz81.length : Int) = 0 then (if (tz78.length : Int) = (wrap64 (1 + tz2)) then (if (tz86.length : Int) = (wrap64 (1 + tz2)) then (columbariumlaw14_DiskCrashes.j2 k2 tz1 (wrap64 (1 + tz2)) ((tz39.length : Int) != (wrap64 (1 + tz2))) tz39 tz42 tz78 tz81 tz86 tz89) else (columbariumlaw14_DiskCrashes.j2 k2 tz1 (wrap64 (1 + tz2)) true tz39 tz42 tz78 tz81 tz86 tz89)) else (columbariumlaw14_DiskCrashes.j2 k2 tz1 (wrap64 (1 + tz2)) true tz39 tz42 tz78 tz81 tz86 tz89)) else (columbariumlaw14_DiskCrashes.j2 k2 tz1 (wrap64 (1 + tz2)) true tz39 tz42 tz78 tz81 tz86 tz89)) else (columbariumlaw14_DiskCrashes.j2 k2 tz1 (wrap64 (1 + tz2)) true tz39 tz42 tz78 tz81 tz86 tz89))) else (columbariumlaw14_DiskCrashes.j2 k2 tz1 (wrap64 (1 + tz2)) true tz39 tz42 tz78 tz81 tz86 tz89)) else (columbariumlaw14_DiskCrashes.j2 k2 tz1 (wrap64 (1 + tz2)) true tz39 tz42 tz78 tz81 tz86 tz89)) else (columbariumlaw14_DiskCrashes.j2 k2 tz1 (wrap64 (1 + tz2)) true tz39 tz42 tz78 tz81 tz86 tz89)) else (columbariumlaw14_DiskCrashes.j2 k2 tz1 (wrap64 (1 + tz2)) true tz39 tz42 tz78 tz81 tz86 tz89)) = some r := H
 have A86 := Aside0.mk A860
 clear A860
 have HC87 := am H
 clear H
 obtain ⟨hcz88_0, hcz88_1⟩ := bc2 BKz46
 obtain ⟨hfz88_0, hfz88_1⟩ := bf2 BKz46
 obtain ⟨Ao89, co89, eo89⟩ := Kd.R_slice HO_21.out
 subst eo89
 go_upto_region 25 with (first | ((with_reducible refine gate_callee (f := 26) rfl ?_); refine goesL_ (some 124) rfl rfl Try.func26 (by kernel_rfl) rfl #[.agg #[.slice Ao50 tz39.length co50, .slice Ao55 tz42.length co55], .slice Ao89 x21_2.length co89] rfl (by (try simp only [List.map_toArray, List.map_cons, List.map_nil]) <;> rfl) ?_; (with_reducible refine (disk_Crash.calls _ _ tz39 _ _ tz42 _ _ x21_2 tz59 tz62 tz65 _ ?side1 ?side2 ?side3 ?side4 ?side5 ?side6 A83.out).mono ?_); (case side1 => repeat (first | exact (Kd.R_reads' HO_z47000.out).2.2 | (with_reducible refine Kd.C_alloc ?_ _) | (with_reducible refine Kd.C_drewN ?_ _) | (with_reducible refine Kd.C_drew ?_))); (case side2 => exact (Kd.R_reads' HO_z47000.out).2.1); (case side3 => repeat (first | exact (Kd.R_reads' HO_z47001.out).2.2 | (with_reducible refine Kd.C_alloc ?_ _) | (with_reducible refine Kd.C_drewN ?_ _) | (with_reducible refine Kd.C_drew ?_))); (case side4 => exact (Kd.R_reads' HO_z47001.out).2.1); (case side5 => repeat (first | exact (Kd.R_reads' HO_21.out).2.2 | (with_reducible refine Kd.C_alloc ?_ _) | (with_reducible refine Kd.C_drewN ?_ _) | (with_reducible refine Kd.C_drew ?_))); (case side6 => exact (Kd.R_reads' HO_21.out).2.1); rintro e w90 ⟨vz60, vz63, rfl, ho0, ho1, hb⟩; refine ⟨_, rfl, ?_⟩; have n0_ := am (Kd.R_below (pr HO_21) hb); have n1_ := am (Kd.R_below (pr HO_22) hb); have n2_ := am (Kd.R_elder' (pr HO_z47000) (Kd.R_base ho0) hb); have n3_ := am (Kd.R_elder' (pr HO_z47001) (Kd.R_base ho1) hb); have n4_ := am (Kd.R_lower (Kd.R_new' ho0 (Kd.R_lt (pr HO_z47000))) (below_size (sC_ HB))); have n5_ := am (Kd.R_lower (Kd.R_new' ho1 (Kd.R_lt (pr HO_z47001))) (below_size (sC_ HB))); have n6_ := am (blk_below (pk BKz46) hb); have n7_ := am (below_step (sC_ HB) hb); clear HO_21; clear HO_22; clear HO_z47000; clear HO_z47001; clear BKz46; clear HB; have HO_21 := n0_; have HO_22 := n1_; have HO_z47000 := n2_; have HO_z47001 := n3_; have HOz61 := n4_; have HOz64 := n5_; have BKz46 := n6_; have HB := n7_; clear n0_ n1_ n2_ n3_ n4_ n5_ n6_ n7_; (try clear ho1)) | ((with_reducible refine gate_dst (N := 25) rfl ?_); (try (refine gate_guard (by rfl) ?_; dsimp only)); refine box_event ?hg (N := 25) ?hd (cs := #[.slice none 0 0, .slice none 0 0]) (t := 30) ?hr ?_; (case hd => rfl); (case hg => rfl); (case hr => first | (go_simp; done) | (go_simp; rfl)); intro gbz66 hg w91 hbox hb; have n0_ := am (Kd.R_below (pr HO_21) hb); have n1_ := am (Kd.R_below (pr HO_22) hb); have n2_ := am (Kd.R_below (pr HO_z47000) hb); have n3_ := am (Kd.R_below (pr HO_z47001) hb); have n4_ := am (Kd.R_below (pr HOz61) hb); have n5_ := am (Kd.R_below (pr HOz64) hb); have n6_ := am (blk_below (pk BKz46) hb); have n7_ := am (below_step (sC_ HB) hb); have n8_ := am (hbox); have n9_ := ge_ hg (sC_ HB); have n10_ := ge_ hg (sC_ HB); have n11_ := nl_ hg BKz46; have n12_ := ng_ hg BKz46; clear HO_21; clear HO_22; clear HO_z47000; clear HO_z47001; clear HOz61; clear HOz64; clear BKz46; clear HB; have HO_21 := n0_; have HO_22 := n1_; have HO_z47000 := n2_; have HO_z47001 := n3_; have HOz61 := n4_; have HOz64 := n5_; have BKz46 := n6_; have HB := n7_; have BKz66 := n8_; have GWz66 := n9_; have GEz66 := n10_; have NBz46_z66 := n11_; have NBz66_z46 := n12_; clear n0_ n1_ n2_ n3_ n4_ n5_ n6_ n7_ n8_ n9_ n10_ n11_ n12_; clear hb hbox hg; obtain ⟨Ao92, co92, eo92⟩ := Kd.R_slice HOz61.out; subst eo92; have hnb93 := NBz66_z46.out; have hnc93 := NBz46_z66.out; obtain ⟨hcz94_0, hcz94_1⟩ := bc2 BKz66; obtain ⟨hfz94_0, hfz94_1⟩ := bf2 BKz66; obtain ⟨Ao95, co95, eo95⟩ := Kd.R_slice HOz64.out; subst eo95; obtain ⟨hcz96_0, hcz96_1⟩ := bc2 BKz46; obtain ⟨hfz96_0, hfz96_1⟩ := bf2 BKz46) | ((with_reducible refine gate_dst (N := 130) rfl ?_); (try (refine gate_guard (by rfl) ?_; dsimp only)); refine Kd.R_lit k24 _ 24 ?hg (N := 130) ?hd (xs := ([(⟨true, 0, (⟨#[]⟩ : ByteArray)⟩ : S24)] : List (S24))) (inner := [.bool true, .int .i64 0, .string (⟨#[]⟩ : ByteArray)]) (ok := fun _ => True) (okp := fun _ => True) ?hr ?hp (fun _ hk => hk) trivial (Below.refl _ _) (Nat.le_refl _) (by simp) ?_; (case hd => rfl); (case hg => rfl); (case hr => first | (go_simp; done) | (go_simp; rfl)); (case hp => exact (Reps.c3 (show Kd.M k24 _ _ _ (⟨true, 0, (⟨#[]⟩ : ByteArray)⟩ : S24) [.bool true, .int .i64 0, .string (⟨#[]⟩ : ByteArray)] from (k24_mkM _ _ _ (⟨true, 0, (⟨#[]⟩ : ByteArray)⟩ : S24) )) (Reps.none _ _))); intro vz68 w97 ho98 hb hg_ hnew_; clear hg_ hnew_; (first | rw [← Nyz67.out] at ho98 | (simp only [Int.reduceToNat] at ho98; rw [← Nyz67.out] at ho98)); have n0_ := am (Kd.R_below (by (with_reducible repeat first | apply ra | apply rn | apply rd); exact (rs2 HO_21 BKz66 (by decide))) hb); have n1_ := am (Kd.R_below (by (with_reducible repeat first | apply ra | apply rn | apply rd); exact (rs2 HO_22 BKz66 (by decide))) hb); have n2_ := am (Kd.R_below (by (with_reducible repeat first | apply ra | apply rn | apply rd); exact (rs2 HO_z47000 BKz66 (by decide))) hb); have n3_ := am (Kd.R_elder' (by (with_reducible repeat first | apply ra | apply rn | apply rd); exact (rs2 HO_z47001 BKz66 (by decide))) (Kd.R_base ho98) hb); have n4_ := am (Kd.R_below (by (with_reducible repeat first | apply ra | apply rn | apply rd); exact (rs2 HOz61 BKz66 (by decide))) hb); have n5_ := am (Kd.R_elder' (by (with_reducible repeat first | apply ra | apply rn | apply rd); exact (rs2 HOz64 BKz66 (by decide))) (Kd.R_base ho98) hb); have n6_ := am (Kd.R_lower (Kd.R_new' (Kd.R_new' ho98 (Kd.R_lt (by (with_reducible repeat first | apply ra | apply rn | apply rd); exact (rs2 HO_z47001 BKz66 (by decide))))) (Kd.R_lt (by (with_reducible repeat first | apply ra | apply rn | apply rd); exact (rs2 HOz64 BKz66 (by decide))))) (below_size (sC_ HB))); have n7_ := am (blk_below (g := gbz46) (o := .cells #[.slice Ao50 tz39.length co50, .slice Ao55 tz42.length co55] 30 (0, 0)) (by (with_reducible repeat (first | refine blk_drewN ?_ _ | refine blk_drew ?_ | refine blk_alloc ?_ _)); refine blk_far ?_ NBz46_z66.out _; refine blk_far ?_ NBz46_z66.out _; exact pk BKz46) hb); have n8_ := am (blk_below (g := gbz66) (o := .cells #[.slice Ao92 tz59.length co92, .slice Ao95 tz62.length co95] 30 (0, 0)) (by (with_reducible repeat (first | refine blk_drewN ?_ _ | refine blk_drew ?_ | refine blk_alloc ?_ _)); apply bp2; exact pk BKz66) hb); have n9_ := am (below_step (sC_ HB) hb); clear HO_21; clear HO_22; clear HO_z47000; clear HO_z47001; clear HOz61; clear HOz64; clear BKz46; clear BKz66; clear HB; have HO_21 := n0_; have HO_22 := n1_; have HO_z47000 := n2_; have HO_z47001 := n3_; have HOz61 := n4_; have HOz64 := n5_; have HOz69 := n6_; have BKz46 := n7_; have BKz66 := n8_; have HB := n9_; clear n0_ n1_ n2_ n3_ n4_ n5_ n6_ n7_ n8_ n9_; clear hb ho98; obtain ⟨Ao99, co99, eo99⟩ := Kd.R_slice HOz69.out; subst eo99) | ((with_reducible refine gate_callee (f := 25) rfl ?_); refine goesL_ (some 131) rfl rfl Try.func25 (by kernel_rfl) rfl #[.agg #[.slice Ao50 tz39.length co50, .slice Ao55 tz42.length co55], .slice Ao99 yz67.length co99] rfl (by (try simp only [List.map_toArray, List.map_cons, List.map_nil]) <;> rfl) ?_; (with_reducible refine (disk_Do.calls _ _ tz39 _ _ tz42 _ _ yz67 tz70 tz73 tz76 _ ?side1 ?side2 ?side3 ?side4 ?side5 ?side6 A84.out).mono ?_); (case side1 => repeat (first | exact (Kd.R_reads' HO_z47000.out).2.2 | (with_reducible refine Kd.C_alloc ?_ _) | (with_reducible refine Kd.C_drewN ?_ _) | (with_reducible refine Kd.C_drew ?_))); (case side2 => exact (Kd.R_reads' HO_z47000.out).2.1); (case side3 => repeat (first | exact (Kd.R_reads' HO_z47001.out).2.2 | (with_reducible refine Kd.C_alloc ?_ _) | (with_reducible refine Kd.C_drewN ?_ _) | (with_reducible refine Kd.C_drew ?_))); (case side4 => exact (Kd.R_reads' HO_z47001.out).2.1); (case side5 => repeat (first | exact (Kd.R_reads' HOz69.out).2.2 | (with_reducible refine Kd.C_alloc ?_ _) | (with_reducible refine Kd.C_drewN ?_ _) | (with_reducible refine Kd.C_drew ?_))); (case side6 => exact (Kd.R_reads' HOz69.out).2.1); rintro e w100 ⟨vz71, vz74, rfl, ho0, ho1, hb⟩; refine ⟨_, rfl, ?_⟩; have n0_ := am (Kd.R_below (pr HO_21) hb); have n1_ := am (Kd.R_below (pr HO_22) hb); have n2_ := am (Kd.R_elder' (pr HO_z47000) (Kd.R_base ho0) hb); have n3_ := am (Kd.R_elder' (pr HO_z47001) (Kd.R_base ho1) hb); have n4_ := am (Kd.R_elder' (pr HOz61) (Kd.R_base ho0) hb); have n5_ := am (Kd.R_elder' (pr HOz64) (Kd.R_base ho1) hb); have n6_ := am (Kd.R_elder' (pr HOz69) (Kd.R_base ho1) hb); have n7_ := am (Kd.R_lower (Kd.R_new' (Kd.R_new' ho0 (Kd.R_lt (pr HO_z47000))) (Kd.R_lt (pr HOz61))) (below_size (sC_ HB))); have n8_ := am (Kd.R_lower (Kd.R_new' (Kd.R_new' (Kd.R_new' ho1 (Kd.R_lt (pr HO_z47001))) (Kd.R_lt (pr HOz64))) (Kd.R_lt (pr HOz69))) (below_size (sC_ HB))); have n9_ := am (blk_below (pk BKz46) hb); have n10_ := am (blk_below (pk BKz66) hb); have n11_ := am (below_step (sC_ HB) hb); clear HO_21; clear HO_22; clear HO_z47000; clear HO_z47001; clear HOz61; clear HOz64; clear HOz69; clear BKz46; clear BKz66; clear HB; have HO_21 := n0_; have HO_22 := n1_; have HO_z47000 := n2_; have HO_z47001 := n3_; have HOz61 := n4_; have HOz64 := n5_; have HOz69 := n6_; have HOz72 := n7_; have HOz75 := n8_; have BKz46 := n9_; have BKz66 := n10_; have HB := n11_; clear n0_ n1_ n2_ n3_ n4_ n5_ n6_ n7_ n8_ n9_ n10_ n11_; (try clear ho1)) | ((with_reducible refine gate_dst (N := 27) rfl ?_); (try (refine gate_guard (by rfl) ?_; dsimp only)); refine box_event ?hg (N := 27) ?hd (cs := #[.slice none 0 0, .slice none 0 0]) (t := 30) ?hr ?_; (case hd => rfl); (case hg => rfl); (case hr => first | (go_simp; done) | (go_simp; rfl)); intro gbz77 hg w101 hbox hb; have n0_ := am (Kd.R_below (pr HO_21) hb); have n1_ := am (Kd.R_below (pr HO_22) hb); have n2_ := am (Kd.R_below (pr HO_z47000) hb); have n3_ := am (Kd.R_below (pr HO_z47001) hb); have n4_ := am (Kd.R_below (pr HOz61) hb); have n5_ := am (Kd.R_below (pr HOz64) hb); have n6_ := am (Kd.R_below (pr HOz69) hb); have n7_ := am (Kd.R_below (pr HOz72) hb); have n8_ := am (Kd.R_below (pr HOz75) hb); have n9_ := am (blk_below (pk BKz46) hb); have n10_ := am (blk_below (pk BKz66) hb); have n11_ := am (below_step (sC_ HB) hb); have n12_ := am (hbox); have n13_ := ge_ hg (sC_ HB); have n14_ := ge_ hg (sC_ HB); have n15_ := nl_ hg BKz46; have n16_ := ng_ hg BKz46; have n17_ := nl_ hg BKz66; have n18_ := ng_ hg BKz66; clear HO_21; clear HO_22; clear HO_z47000; clear HO_z47001; clear HOz61; clear HOz64; clear HOz69; clear HOz72; clear HOz75; clear BKz46; clear BKz66; clear HB; have HO_21 := n0_; have HO_22 := n1_; have HO_z47000 := n2_; have HO_z47001 := n3_; have HOz61 := n4_; have HOz64 := n5_; have HOz69 := n6_; have HOz72 := n7_; have HOz75 := n8_; have BKz46 := n9_; have BKz66 := n10_; have HB := n11_; have BKz77 := n12_; have GWz77 := n13_; have GEz77 := n14_; have NBz46_z77 := n15_; have NBz77_z46 := n16_; have NBz66_z77 := n17_; have NBz77_z66 := n18_; clear n0_ n1_ n2_ n3_ n4_ n5_ n6_ n7_ n8_ n9_ n10_ n11_ n12_ n13_ n14_ n15_ n16_ n17_ n18_; clear hb hbox hg; obtain ⟨Ao102, co102, eo102⟩ := Kd.R_slice HOz72.out; subst eo102; have hnb103 := NBz77_z46.out; have hnc103 := NBz46_z77.out; have hnb104 := NBz77_z66.out; have hnc104 := NBz66_z77.out; obtain ⟨hcz105_0, hcz105_1⟩ := bc2 BKz77; obtain ⟨hfz105_0, hfz105_1⟩ := bf2 BKz77; obtain ⟨Ao106, co106, eo106⟩ := Kd.R_slice HOz75.out; subst eo106; obtain ⟨hcz107_0, hcz107_1⟩ := bc2 BKz46; obtain ⟨hfz107_0, hfz107_1⟩ := bf2 BKz46) | ((with_reducible refine gate_callee (f := 26) rfl ?_); refine goesL_ (some 136) rfl rfl Try.func26 (by kernel_rfl) rfl #[.agg #[.slice Ao50 tz39.length co50, .slice Ao55 tz42.length co55], .slice none 0 0] rfl (by (try simp only [List.map_toArray, List.map_cons, List.map_nil]) <;> rfl) ?_; (refine (disk_Crash.calls _ _ tz39 _ _ tz42 _ _ ([] : List Int) tz78 tz81 tz84 _ ?side1 ?side2 ?side3 ?side4 ?side5 ?side6 A85.out).mono ?_); (case side1 => refine (Kd.R_reads' (e := 9) (base := w.heap.size) (ok := fun k_ => ((True ∧ some k_ ≠ (.slice Ao92 tz59.length co92 : Value).ownBlock) ∧ some k_ ≠ (.slice Ao102 tz70.length co102 : Value).ownBlock)) (n := tz39.length) (c := co50) ?_).2.2; exact (by (with_reducible repeat first | apply ra | apply rn | apply rd); exact (rs2 HO_z47000 BKz77 (by decide)))); (case side2 => exact (Kd.R_reads' HO_z47000.out).2.1); (case side3 => refine (Kd.R_reads' (e := 24) (base := w.heap.size) (ok := fun k_ => (((True ∧ some k_ ≠ (.slice Ao95 tz62.length co95 : Value).ownBlock) ∧ some k_ ≠ (.slice Ao99 yz67.length co99 : Value).ownBlock) ∧ some k_ ≠ (.slice Ao106 tz73.length co106 : Value).ownBlock)) (n := tz42.length) (c := co55) ?_).2.2; exact (by (with_reducible repeat first | apply ra | apply rn | apply rd); exact (rs2 HO_z47001 BKz77 (by decide)))); (case side4 => exact (Kd.R_reads' HO_z47001.out).2.1); (case side5 => exact Kd.C_nil _ _); (case side6 => exact Nat.le_refl _); rintro e w108 ⟨vz79, vz82, rfl, ho0, ho1, hb⟩; refine ⟨_, rfl, ?_⟩; have n0_ := am (Kd.R_below (by (with_reducible repeat first | apply ra | apply rn | apply rd); exact (rs2 HO_21 BKz77 (by decide))) hb); have n1_ := am (Kd.R_below (by (with_reducible repeat first | apply ra | apply rn | apply rd); exact (rs2 HO_22 BKz77 (by decide))) hb); have n2_ := am (Kd.R_elder' (by (with_reducible repeat first | apply ra | apply rn | apply rd); exact (rs2 HO_z47000 BKz77 (by decide))) (Kd.R_base ho0) hb); have n3_ := am (Kd.R_elder' (by (with_reducible repeat first | apply ra | apply rn | apply rd); exact (rs2 HO_z47001 BKz77 (by decide))) (Kd.R_base ho1) hb); have n4_ := am (Kd.R_elder' (by (with_reducible repeat first | apply ra | apply rn | apply rd); exact (rs2 HOz61 BKz77 (by decide))) (Kd.R_base ho0) hb); have n5_ := am (Kd.R_elder' (by (with_reducible repeat first | apply ra | apply rn | apply rd); exact (rs2 HOz64 BKz77 (by decide))) (Kd.R_base ho1) hb); have n6_ := am (Kd.R_elder' (by (with_reducible repeat first | apply ra | apply rn | apply rd); exact (rs2 HOz69 BKz77 (by decide))) (Kd.R_base ho1) hb); have n7_ := am (Kd.R_elder' (by (with_reducible repeat first | apply ra | apply rn | apply rd); exact (rs2 HOz72 BKz77 (by decide))) (Kd.R_base ho0) hb); have n8_ := am (Kd.R_elder' (by (with_reducible repeat first | apply ra | apply rn | apply rd); exact (rs2 HOz75 BKz77 (by decide))) (Kd.R_base ho1) hb); have n9_ := am (Kd.R_lower (Kd.R_new' (Kd.R_new' (Kd.R_new' ho0 (Kd.R_lt (by (with_reducible repeat first | apply ra | apply rn | apply rd); exact (rs2 HO_z47000 BKz77 (by decide))))) (Kd.R_lt (by (with_reducible repeat first | apply ra | apply rn | apply rd); exact (rs2 HOz61 BKz77 (by decide))))) (Kd.R_lt (by (with_reducible repeat first | apply ra | apply rn | apply rd); exact (rs2 HOz72 BKz77 (by decide))))) (below_size (sC_ HB))); have n10_ := am (Kd.R_lower (Kd.R_new' (Kd.R_new' (Kd.R_new' (Kd.R_new' ho1 (Kd.R_lt (by (with_reducible repeat first | apply ra | apply rn | apply rd); exact (rs2 HO_z47001 BKz77 (by decide))))) (Kd.R_lt (by (with_reducible repeat first | apply ra | apply rn | apply rd); exact (rs2 HOz64 BKz77 (by decide))))) (Kd.R_lt (by (with_reducible repeat first | apply ra | apply rn | apply rd); exact (rs2 HOz69 BKz77 (by decide))))) (Kd.R_lt (by (with_reducible repeat first | apply ra | apply rn | apply rd); exact (rs2 HOz75 BKz77 (by decide))))) (below_size (sC_ HB))); have n11_ := am (blk_below (g := gbz46) (o := .cells #[.slice Ao50 tz39.length co50, .slice Ao55 tz42.length co55] 30 (0, 0)) (by (with_reducible repeat (first | refine blk_drewN ?_ _ | refine blk_drew ?_ | refine blk_alloc ?_ _)); refine blk_far ?_ NBz46_z77.out _; refine blk_far ?_ NBz46_z77.out _; exact pk BKz46) hb); have n12_ := am (blk_below (g := gbz66) (o := .cells #[.slice Ao92 tz59.length co92, .slice Ao95 tz62.length co95] 30 (0, 0)) (by (with_reducible repeat (first | refine blk_drewN ?_ _ | refine blk_drew ?_ | refine blk_alloc ?_ _)); refine blk_far ?_ NBz66_z77.out _; refine blk_far ?_ NBz66_z77.out _; exact pk BKz66) hb); have n13_ := am (blk_below (g := gbz77) (o := .cells #[.slice Ao102 tz70.length co102, .slice Ao106 tz73.length co106] 30 (0, 0)) (by (with_reducible repeat (first | refine blk_drewN ?_ _ | refine blk_drew ?_ | refine blk_alloc ?_ _)); apply bp2; exact pk BKz77) hb); have n14_ := am (below_step (sC_ HB) hb); clear HO_21; clear HO_22; clear HO_z47000; clear HO_z47001; clear HOz61; clear HOz64; clear HOz69; clear HOz72; clear HOz75; clear BKz46; clear BKz66; clear BKz77; clear HB; have HO_21 := n0_; have HO_22 := n1_; have HO_z47000 := n2_; have HO_z47001 := n3_; have HOz61 := n4_; have HOz64 := n5_; have HOz69 := n6_; have HOz72 := n7_; have HOz75 := n8_; have HOz80 := n9_; have HOz83 := n10_; have BKz46 := n11_; have BKz66 := n12_; have BKz77 := n13_; have HB := n14_; clear n0_ n1_ n2_ n3_ n4_ n5_ n6_ n7_ n8_ n9_ n10_ n11_ n12_ n13_ n14_; (try clear ho1)) | ((with_reducible refine gate_dst (N := 29) rfl ?_); (try (refine gate_guard (by rfl) ?_; dsimp only)); refine box_event ?hg (N := 29) ?hd (cs := #[.slice none 0 0, .slice none 0 0]) (t := 30) ?hr ?_; (case hd => rfl); (case hg => rfl); (case hr => first | (go_simp; done) | (go_simp; rfl)); intro gbz85 hg w109 hbox hb; have n0_ := am (Kd.R_below (pr HO_21) hb); have n1_ := am (Kd.R_below (pr HO_22) hb); have n2_ := am (Kd.R_below (pr HO_z47000) hb); have n3_ := am (Kd.R_below (pr HO_z47001) hb); have n4_ := am (Kd.R_below (pr HOz61) hb); have n5_ := am (Kd.R_below (pr HOz64) hb); have n6_ := am (Kd.R_below (pr HOz69) hb); have n7_ := am (Kd.R_below (pr HOz72) hb); have n8_ := am (Kd.R_below (pr HOz75) hb); have n9_ := am (Kd.R_below (pr HOz80) hb); have n10_ := am (Kd.R_below (pr HOz83) hb); have n11_ := am (blk_below (pk BKz46) hb); have n12_ := am (blk_below (pk BKz66) hb); have n13_ := am (blk_below (pk BKz77) hb); have n14_ := am (below_step (sC_ HB) hb); have n15_ := am (hbox); have n16_ := ge_ hg (sC_ HB); have n17_ := ge_ hg (sC_ HB); have n18_ := nl_ hg BKz46; have n19_ := ng_ hg BKz46; have n20_ := nl_ hg BKz66; have n21_ := ng_ hg BKz66; have n22_ := nl_ hg BKz77; have n23_ := ng_ hg BKz77; clear HO_21; clear HO_22; clear HO_z47000; clear HO_z47001; clear HOz61; clear HOz64; clear HOz69; clear HOz72; clear HOz75; clear HOz80; clear HOz83; clear BKz46; clear BKz66; clear BKz77; clear HB; have HO_21 := n0_; have HO_22 := n1_; have HO_z47000 := n2_; have HO_z47001 := n3_; have HOz61 := n4_; have HOz64 := n5_; have HOz69 := n6_; have HOz72 := n7_; have HOz75 := n8_; have HOz80 := n9_; have HOz83 := n10_; have BKz46 := n11_; have BKz66 := n12_; have BKz77 := n13_; have HB := n14_; have BKz85 := n15_; have GWz85 := n16_; have GEz85 := n17_; have NBz46_z85 := n18_; have NBz85_z46 := n19_; have NBz66_z85 := n20_; have NBz85_z66 := n21_; have NBz77_z85 := n22_; have NBz85_z77 := n23_; clear n0_ n1_ n2_ n3_ n4_ n5_ n6_ n7_ n8_ n9_ n10_ n11_ n12_ n13_ n14_ n15_ n16_ n17_ n18_ n19_ n20_ n21_ n22_ n23_; clear hb hbox hg; obtain ⟨Ao110, co110, eo110⟩ := Kd.R_slice HOz80.out; subst eo110; have hnb111 := NBz85_z46.out; have hnc111 := NBz46_z85.out; have hnb112 := NBz85_z66.out; have hnc112 := NBz66_z85.out; have hnb113 := NBz85_z77.out; have hnc113 := NBz77_z85.out; obtain ⟨hcz114_0, hcz114_1⟩ := bc2 BKz85; obtain ⟨hfz114_0, hfz114_1⟩ := bf2 BKz85; obtain ⟨Ao115, co115, eo115⟩ := Kd.R_slice HOz83.out; subst eo115; obtain ⟨hcz116_0, hcz116_1⟩ := bc2 BKz46; obtain ⟨hfz116_0, hfz116_1⟩ := bf2 BKz46; obtain ⟨Ao117, co117, eo117⟩ := Kd.R_slice HO_22.out; subst eo117) | ((with_reducible refine gate_callee (f := 26) rfl ?_); refine goesL_ (some 142) rfl rfl Try.func26 (by kernel_rfl) rfl #[.agg #[.slice Ao50 tz39.length co50, .slice Ao55 tz42.length co55], .slice Ao117 x22_2.length co117] rfl (by (try simp only [List.map_toArray, List.map_cons, List.map_nil]) <;> rfl) ?_; (with_reducible refine (disk_Crash.calls _ _ tz39 _ _ tz42 _ _ x22_2 tz86 tz89 tz92 _ ?side1 ?side2 ?side3 ?side4 ?side5 ?side6 A86.out).mono ?_); (case side1 => refine (Kd.R_reads' (e := 9) (base := w.heap.size) (ok := fun k_ => (((True ∧ some k_ ≠ (.slice Ao92 tz59.length co92 : Value).ownBlock) ∧ some k_ ≠ (.slice Ao102 tz70.length co102 : Value).ownBlock) ∧ some k_ ≠ (.slice Ao110 tz78.length co110 : Value).ownBlock)) (n := tz39.length) (c := co50) ?_).2.2; exact (by (with_reducible repeat first | apply ra | apply rn | apply rd); exact (rs2 HO_z47000 BKz85 (by decide)))); (case side2 => exact (Kd.R_reads' HO_z47000.out).2.1); (case side3 => refine (Kd.R_reads' (e := 24) (base := w.heap.size) (ok := fun k_ => ((((True ∧ some k_ ≠ (.slice Ao95 tz62.length co95 : Value).ownBlock) ∧ some k_ ≠ (.slice Ao99 yz67.length co99 : Value).ownBlock) ∧ some k_ ≠ (.slice Ao106 tz73.length co106 : Value).ownBlock) ∧ some k_ ≠ (.slice Ao115 tz81.length co115 : Value).ownBlock)) (n := tz42.length) (c := co55) ?_).2.2; exact (by (with_reducible repeat first | apply ra | apply rn | apply rd); exact (rs2 HO_z47001 BKz85 (by decide)))); (case side4 => exact (Kd.R_reads' HO_z47001.out).2.1); (case side5 => refine (Kd.R_reads' (e := 3) (base := w.heap.size) (ok := fun k_ => some k_ ≠ (.slice Ao89 x21_2.length co89 : Value).ownBlock) (n := x22_2.length) (c := co117) ?_).2.2; exact (by (with_reducible repeat first | apply ra | apply rn | apply rd); exact (rs2 HO_22 BKz85 (by decide)))); (case side6 => exact (Kd.R_reads' HO_22.out).2.1); rintro e w118 ⟨vz87, vz90, rfl, ho0, ho1, hb⟩; refine ⟨_, rfl, ?_⟩; have n0_ := am (Kd.R_below (by (with_reducible repeat first | apply ra | apply rn | apply rd); exact (rs2 HO_21 BKz85 (by decide))) hb); have n1_ := am (Kd.R_below (by (with_reducible repeat first | apply ra | apply rn | apply rd); exact (rs2 HO_22 BKz85 (by decide))) hb); have n2_ := am (Kd.R_elder' (by (with_reducible repeat first | apply ra | apply rn | apply rd); exact (rs2 HO_z47000 BKz85 (by decide))) (Kd.R_base ho0) hb); have n3_ := am (Kd.R_elder' (by (with_reducible repeat first | apply ra | apply rn | apply rd); exact (rs2 HO_z47001 BKz85 (by decide))) (Kd.R_base ho1) hb); have n4_ := am (Kd.R_elder' (by (with_reducible repeat first | apply ra | apply rn | apply rd); exact (rs2 HOz61 BKz85 (by decide))) (Kd.R_base ho0) hb); have n5_ := am (Kd.R_elder' (by (with_reducible repeat first | apply ra | apply rn | apply rd); exact (rs2 HOz64 BKz85 (by decide))) (Kd.R_base ho1) hb); have n6_ := am (Kd.R_elder' (by (with_reducible repeat first | apply ra | apply rn | apply rd); exact (rs2 HOz69 BKz85 (by decide))) (Kd.R_base ho1) hb); have n7_ := am (Kd.R_elder' (by (with_reducible repeat first | apply ra | apply rn | apply rd); exact (rs2 HOz72 BKz85 (by decide))) (Kd.R_base ho0) hb); have n8_ := am (Kd.R_elder' (by (with_reducible repeat first | apply ra | apply rn | apply rd); exact (rs2 HOz75 BKz85 (by decide))) (Kd.R_base ho1) hb); have n9_ := am (Kd.R_elder' (by (with_reducible repeat first | apply ra | apply rn | apply rd); exact (rs2 HOz80 BKz85 (by decide))) (Kd.R_base ho0) hb); have n10_ := am (Kd.R_elder' (by (with_reducible repeat first | apply ra | apply rn | apply rd); exact (rs2 HOz83 BKz85 (by decide))) (Kd.R_base ho1) hb); have n11_ := am (Kd.R_lower (Kd.R_new' (Kd.R_new' (Kd.R_new' (Kd.R_new' ho0 (Kd.R_lt (by (with_reducible repeat first | apply ra | apply rn | apply rd); exact (rs2 HO_z47000 BKz85 (by decide))))) (Kd.R_lt (by (with_reducible repeat first | apply ra | apply rn | apply rd); exact (rs2 HOz61 BKz85 (by decide))))) (Kd.R_lt (by (with_reducible repeat first | apply ra | apply rn | apply rd); exact (rs2 HOz72 BKz85 (by decide))))) (Kd.R_lt (by (with_reducible repeat first | apply ra | apply rn | apply rd); exact (rs2 HOz80 BKz85 (by decide))))) (below_size (sC_ HB))); have n12_ := am (Kd.R_lower (Kd.R_new' (Kd.R_new' (Kd.R_new' (Kd.R_new' (Kd.R_new' ho1 (Kd.R_lt (by (with_reducible repeat first | apply ra | apply rn | apply rd); exact (rs2 HO_z47001 BKz85 (by decide))))) (Kd.R_lt (by (with_reducible repeat first | apply ra | apply rn | apply rd); exact (rs2 HOz64 BKz85 (by decide))))) (Kd.R_lt (by (with_reducible repeat first | apply ra | apply rn | apply rd); exact (rs2 HOz69 BKz85 (by decide))))) (Kd.R_lt (by (with_reducible repeat first | apply ra | apply rn | apply rd); exact (rs2 HOz75 BKz85 (by decide))))) (Kd.R_lt (by (with_reducible repeat first | apply ra | apply rn | apply rd); exact (rs2 HOz83 BKz85 (by decide))))) (below_size (sC_ HB))); have n13_ := am (blk_below (g := gbz46) (o := .cells #[.slice Ao50 tz39.length co50, .slice Ao55 tz42.length co55] 30 (0, 0)) (by (with_reducible repeat (first | refine blk_drewN ?_ _ | refine blk_drew ?_ | refine blk_alloc ?_ _)); refine blk_far ?_ NBz46_z85.out _; refine blk_far ?_ NBz46_z85.out _; exact pk BKz46) hb); have n14_ := am (blk_below (g := gbz66) (o := .cells #[.slice Ao92 tz59.length co92, .slice Ao95 tz62.length co95] 30 (0, 0)) (by (with_reducible repeat (first | refine blk_drewN ?_ _ | refine blk_drew ?_ | refine blk_alloc ?_ _)); refine blk_far ?_ NBz66_z85.out _; refine blk_far ?_ NBz66_z85.out _; exact pk BKz66) hb); have n15_ := am (blk_below (g := gbz77) (o := .cells #[.slice Ao102 tz70.length co102, .slice Ao106 tz73.length co106] 30 (0, 0)) (by (with_reducible repeat (first | refine blk_drewN ?_ _ | refine blk_drew ?_ | refine blk_alloc ?_ _)); refine blk_far ?_ NBz77_z85.out _; refine blk_far ?_ NBz77_z85.out _; exact pk BKz77) hb); have n16_ := am (blk_below (g := gbz85) (o := .cells #[.slice Ao110 tz78.length co110, .slice Ao115 tz81.length co115] 30 (0, 0)) (by (with_reducible repeat (first | refine blk_drewN ?_ _ | refine blk_drew ?_ | refine blk_alloc ?_ _)); apply bp2; exact pk BKz85) hb); have n17_ := am (below_step (sC_ HB) hb); clear HO_21; clear HO_22; clear HO_z47000; clear HO_z47001; clear HOz61; clear HOz64; clear HOz69; clear HOz72; clear HOz75; clear HOz80; clear HOz83; clear BKz46; clear BKz66; clear BKz77; clear BKz85; clear HB; have HO_21 := n0_; have HO_22 := n1_; have HO_z47000 := n2_; have HO_z47001 := n3_; have HOz61 := n4_; have HOz64 := n5_; have HOz69 := n6_; have HOz72 := n7_; have HOz75 := n8_; have HOz80 := n9_; have HOz83 := n10_; have HOz88 := n11_; have HOz91 := n12_; have BKz46 := n13_; have BKz66 := n14_; have BKz77 := n15_; have BKz85 := n16_; have HB := n17_; clear n0_ n1_ n2_ n3_ n4_ n5_ n6_ n7_ n8_ n9_ n10_ n11_ n12_ n13_ n14_ n15_ n16_ n17_; (try clear ho1)) | ((with_reducible refine gate_dst (N := 31) rfl ?_); (try (refine gate_guard (by rfl) ?_; dsimp only)); refine box_event ?hg (N := 31) ?hd (cs := #[.slice none 0 0, .slice none 0 0]) (t := 30) ?hr ?_; (case hd => rfl); (case hg => rfl); (case hr => first | (go_simp; done) | (go_simp; rfl)); intro gbz93 hg w119 hbox hb; have n0_ := am (Kd.R_below (pr HO_21) hb); have n1_ := am (Kd.R_below (pr HO_22) hb); have n2_ := am (Kd.R_below (pr HO_z47000) hb); have n3_ := am (Kd.R_below (pr HO_z47001) hb); have n4_ := am (Kd.R_below (pr HOz61) hb); have n5_ := am (Kd.R_below (pr HOz64) hb); have n6_ := am (Kd.R_below (pr HOz69) hb); have n7_ := am (Kd.R_below (pr HOz72) hb); have n8_ := am (Kd.R_below (pr HOz75) hb); have n9_ := am (Kd.R_below (pr HOz80) hb); have n10_ := am (Kd.R_below (pr HOz83) hb); have n11_ := am (Kd.R_below (pr HOz88) hb); have n12_ := am (Kd.R_below (pr HOz91) hb); have n13_ := am (blk_below (pk BKz46) hb); have n14_ := am (blk_below (pk BKz66) hb); have n15_ := am (blk_below (pk BKz77) hb); have n16_ := am (blk_below (pk BKz85) hb); have n17_ := am (below_step (sC_ HB) hb); have n18_ := am (hbox); have n19_ := ge_ hg (sC_ HB); have n20_ := ge_ hg (sC_ HB); have n21_ := nl_ hg BKz46; have n22_ := ng_ hg BKz46; have n23_ := nl_ hg BKz66; have n24_ := ng_ hg BKz66; have n25_ := nl_ hg BKz77; have n26_ := ng_ hg BKz77; have n27_ := nl_ hg BKz85; have n28_ := ng_ hg BKz85; clear HO_21; clear HO_22; clear HO_z47000; clear HO_z47001; clear HOz61; clear HOz64; clear HOz69; clear HOz72; clear HOz75; clear HOz80; clear HOz83; clear HOz88; clear HOz91; clear BKz46; clear BKz66; clear BKz77; clear BKz85; clear HB; have HO_21 := n0_; have HO_22 := n1_; have HO_z47000 := n2_; have HO_z47001 := n3_; have HOz61 := n4_; have HOz64 := n5_; have HOz69 := n6_; have HOz72 := n7_; have HOz75 := n8_; have HOz80 := n9_; have HOz83 := n10_; have HOz88 := n11_; have HOz91 := n12_; have BKz46 := n13_; have BKz66 := n14_; have BKz77 := n15_; have BKz85 := n16_; have HB := n17_; have BKz93 := n18_; have GWz93 := n19_; have GEz93 := n20_; have NBz46_z93 := n21_; have NBz93_z46 := n22_; have NBz66_z93 := n23_; have NBz93_z66 := n24_; have NBz77_z93 := n25_; have NBz93_z77 := n26_; have NBz85_z93 := n27_; have NBz93_z85 := n28_; clear n0_ n1_ n2_ n3_ n4_ n5_ n6_ n7_ n8_ n9_ n10_ n11_ n12_ n13_ n14_ n15_ n16_ n17_ n18_ n19_ n20_ n21_ n22_ n23_ n24_ n25_ n26_ n27_ n28_; clear hb hbox hg; obtain ⟨Ao120, co120, eo120⟩ := Kd.R_slice HOz88.out; subst eo120; have hnb121 := NBz93_z46.out; have hnc121 := NBz46_z93.out; have hnb122 := NBz93_z66.out; have hnc122 := NBz66_z93.out; have hnb123 := NBz93_z77.out; have hnc123 := NBz77_z93.out; have hnb124 := NBz93_z85.out; have hnc124 := NBz85_z93.out; obtain ⟨hcz125_0, hcz125_1⟩ := bc2 BKz93; obtain ⟨hfz125_0, hfz125_1⟩ := bf2 BKz93; obtain ⟨Ao126, co126, eo126⟩ := Kd.R_slice HOz91.out; subst eo126))
 (try simp only [Act.put, List.setIfInBounds_toArray, List.set_cons_zero, List.set_cons_succ])
 go_cut [191] (fun v191 wc => ∃ (kq : Nat) (x191_86 : Bool), v191 = .bool x191_86 ∧ Aside0 (columbariumlaw14_DiskCrashes.j2 kq tz1 (wrap64 (1 + tz2)) x191_86 tz39 tz42 tz78 tz81 tz86 tz89 = some r) ∧ Aside0 (kq ≤ k2) ∧ Aside0 (Kd.R Kd.string 9 wc w.heap.size (fun _ => True) (.slice Ao50 tz39.length co50) tz39) ∧ Aside0 (Kd.R k24 24 wc w.heap.size (fun _ => True) (.slice Ao55 tz42.length co55) tz42) ∧ Aside0 (Kd.R Kd.string 9 wc w.heap.size (fun _ => True) (.slice Ao110 tz78.length co110) tz78) ∧ Aside0 (Kd.R k24 24 wc w.heap.size (fun _ => True) (.slice Ao115 tz81.length co115) tz81) ∧ Aside0 (Kd.R Kd.string 9 wc w.heap.size (fun _ => True) (.slice Ao120 tz86.length co120) tz86) ∧ Aside0 (Kd.R k24 24 wc w.heap.size (fun _ => True) (.slice Ao126 tz89.length co126) tz89) ∧ Aside0 (wc.heap[gbz46]? = some (.cells #[(.slice Ao50 tz39.length co50), (.slice Ao55 tz42.length co55)] 30 (0, 0))) ∧ Aside0 (wc.heap[gbz85]? = some (.cells #[(.slice Ao110 tz78.length co110), (.slice Ao115 tz81.length co115)] 30 (0, 0))) ∧ Aside0 (wc.heap[gbz93]? = some (.cells #[(.slice Ao120 tz86.length co120), (.slice Ao126 tz89.length co126)] 30 (0, 0))) ∧ Aside0 (Below w.heap.size w wc))
 case first =>
  as_aux_lemma =>
   have H := HC87.out
   clear HC87
   by_cases c127 : tz65 = 0
   rotate_left
   ·rw [if_neg c127] at H
    have c127b0 : (tz65 == 0) = false := beq_eq_false_iff_ne.mpr c127
    have c127b1 : (tz65 != 0) = true := bne_iff_ne.mpr c127
    (first | rw [c127b0] | rw [c127b1] | (simp only [i64_w, i32_w]; rw [c127b0]) | skip)
    have H' := am H
    clear H
    go_wp2
    go_meet
    case rel => exact ⟨_, (true), (by first | rfl | (simp; done) | (simp [*]; done)), H', ⟨by have := HJ16.out; have := HK2.out; first | omega | exact Nat.le_refl _⟩, ⟨by (with_reducible repeat first | apply ra | apply rn | apply rd); exact Kd.R_mono (rf2 (Kd.R_types HO_z47000.out BKz93.out (by decide)) (fun _ hk => hk.2)) (fun _ hk => trivial)⟩, ⟨by (with_reducible repeat first | apply ra | apply rn | apply rd); exact Kd.R_mono (rf2 (Kd.R_types HO_z47001.out BKz93.out (by decide)) (fun _ hk => hk.2)) (fun _ hk => trivial)⟩, ⟨by (with_reducible repeat first | apply ra | apply rn | apply rd); exact Kd.R_mono (rf2 (Kd.R_types HOz80.out BKz93.out (by decide)) (fun _ hk => hk.2)) (fun _ hk => trivial)⟩, ⟨by (with_reducible repeat first | apply ra | apply rn | apply rd); exact Kd.R_mono (rf2 (Kd.R_types HOz83.out BKz93.out (by decide)) (fun _ hk => hk.2)) (fun _ hk => trivial)⟩, ⟨by (with_reducible repeat first | apply ra | apply rn | apply rd); exact Kd.R_mono (rf2 (Kd.R_types HOz88.out BKz93.out (by decide)) (fun _ hk => hk.2)) (fun _ hk => trivial)⟩, ⟨by (with_reducible repeat first | apply ra | apply rn | apply rd); exact Kd.R_mono (rf2 (Kd.R_types HOz91.out BKz93.out (by decide)) (fun _ hk => hk.2)) (fun _ hk => trivial)⟩, ⟨by (with_reducible repeat (first | refine blk_drewN ?_ _ | refine blk_drew ?_ | refine blk_alloc ?_ _)); refine blk_far ?_ NBz46_z93.out _; refine blk_far ?_ NBz46_z93.out _; (with_reducible repeat (first | refine blk_drewN ?_ _ | refine blk_drew ?_ | refine blk_alloc ?_ _)); exact BKz46.out⟩, ⟨by (with_reducible repeat (first | refine blk_drewN ?_ _ | refine blk_drew ?_ | refine blk_alloc ?_ _)); refine blk_far ?_ NBz85_z93.out _; refine blk_far ?_ NBz85_z93.out _; (with_reducible repeat (first | refine blk_drewN ?_ _ | refine blk_drew ?_ | refine blk_alloc ?_ _)); exact BKz85.out⟩, ⟨by (with_reducible repeat (first | refine blk_drewN ?_ _ | refine blk_drew ?_ | refine blk_alloc ?_ _)); apply bp2; (with_reducible repeat (first | refine blk_drewN ?_ _ | refine blk_drew ?_ | refine blk_alloc ?_ _)); exact BKz93.out⟩, (sB_ HB)⟩
   rw [if_pos c127] at H
   have c127b0 : (tz65 == 0) = true := beq_iff_eq.mpr c127
   have c127b1 : (tz65 != 0) = false := bne_eq_false_iff_eq.mpr c127
   clear c127
   (first | rw [c127b0] | rw [c127b1] | (simp only [i64_w, i32_w]; rw [c127b0]) | skip)
   by_cases c128 : tz76 = 0
   rotate_left
   ·rw [if_neg c128] at H
    have c128b0 : (tz76 == 0) = false := beq_eq_false_iff_ne.mpr c128
    have c128b1 : (tz76 != 0) = true := bne_iff_ne.mpr c128
    have H' := am H
    clear H
    go_wp2
    go_meet
    case rel => exact ⟨_, (true), (by first | rfl | (simp; done) | (simp [*]; done)), H', ⟨by have := HJ16.out; have := HK2.out; first | omega | exact Nat.le_refl _⟩, ⟨by (with_reducible repeat first | apply ra | apply rn | apply rd); exact Kd.R_mono (rf2 (Kd.R_types HO_z47000.out BKz93.out (by decide)) (fun _ hk => hk.2)) (fun _ hk => trivial)⟩, ⟨by (with_reducible repeat first | apply ra | apply rn | apply rd); exact Kd.R_mono (rf2 (Kd.R_types HO_z47001.out BKz93.out (by decide)) (fun _ hk => hk.2)) (fun _ hk => trivial)⟩, ⟨by (with_reducible repeat first | apply ra | apply rn | apply rd); exact Kd.R_mono (rf2 (Kd.R_types HOz80.out BKz93.out (by decide)) (fun _ hk => hk.2)) (fun _ hk => trivial)⟩, ⟨by (with_reducible repeat first | apply ra | apply rn | apply rd); exact Kd.R_mono (rf2 (Kd.R_types HOz83.out BKz93.out (by decide)) (fun _ hk => hk.2)) (fun _ hk => trivial)⟩, ⟨by (with_reducible repeat first | apply ra | apply rn | apply rd); exact Kd.R_mono (rf2 (Kd.R_types HOz88.out BKz93.out (by decide)) (fun _ hk => hk.2)) (fun _ hk => trivial)⟩, ⟨by (with_reducible repeat first | apply ra | apply rn | apply rd); exact Kd.R_mono (rf2 (Kd.R_types HOz91.out BKz93.out (by decide)) (fun _ hk => hk.2)) (fun _ hk => trivial)⟩, ⟨by (with_reducible repeat (first | refine blk_drewN ?_ _ | refine blk_drew ?_ | refine blk_alloc ?_ _)); refine blk_far ?_ NBz46_z93.out _; refine blk_far ?_ NBz46_z93.out _; (with_reducible repeat (first | refine blk_drewN ?_ _ | refine blk_drew ?_ | refine blk_alloc ?_ _)); exact BKz46.out⟩, ⟨by (with_reducible repeat (first | refine blk_drewN ?_ _ | refine blk_drew ?_ | refine blk_alloc ?_ _)); refine blk_far ?_ NBz85_z93.out _; refine blk_far ?_ NBz85_z93.out _; (with_reducible repeat (first | refine blk_drewN ?_ _ | refine blk_drew ?_ | refine blk_alloc ?_ _)); exact BKz85.out⟩, ⟨by (with_reducible repeat (first | refine blk_drewN ?_ _ | refine blk_drew ?_ | refine blk_alloc ?_ _)); apply bp2; (with_reducible repeat (first | refine blk_drewN ?_ _ | refine blk_drew ?_ | refine blk_alloc ?_ _)); exact BKz93.out⟩, (sB_ HB)⟩
   rw [if_pos c128] at H
   have c128b0 : (tz76 == 0) = true := beq_iff_eq.mpr c128
   have c128b1 : (tz76 != 0) = false := bne_eq_false_iff_eq.mpr c128
   clear c128
   by_cases c129 : tz84 = 0
   rotate_left
   ·rw [if_neg c129] at H
    have c129b0 : (tz84 == 0) = false := beq_eq_false_iff_ne.mpr c129
    have c129b1 : (tz84 != 0) = true := bne_iff_ne.mpr c129
    have H' := am H
    clear H
    go_wp2
    go_meet
    case rel => exact ⟨_, (true), (by first | rfl | (simp; done) | (simp [*]; done)), H', ⟨by have := HJ16.out; have := HK2.out; first | omega | exact Nat.le_refl _⟩, ⟨by (with_reducible repeat first | apply ra | apply rn | apply rd); exact Kd.R_mono (rf2 (Kd.R_types HO_z47000.out BKz93.out (by decide)) (fun _ hk => hk.2)) (fun _ hk => trivial)⟩, ⟨by (with_reducible repeat first | apply ra | apply rn | apply rd); exact Kd.R_mono (rf2 (Kd.R_types HO_z47001.out BKz93.out (by decide)) (fun _ hk => hk.2)) (fun _ hk => trivial)⟩, ⟨by (with_reducible repeat first | apply ra | apply rn | apply rd); exact Kd.R_mono (rf2 (Kd.R_types HOz80.out BKz93.out (by decide)) (fun _ hk => hk.2)) (fun _ hk => trivial)⟩, ⟨by (with_reducible repeat first | apply ra | apply rn | apply rd); exact Kd.R_mono (rf2 (Kd.R_types HOz83.out BKz93.out (by decide)) (fun _ hk => hk.2)) (fun _ hk => trivial)⟩, ⟨by (with_reducible repeat first | apply ra | apply rn | apply rd); exact Kd.R_mono (rf2 (Kd.R_types HOz88.out BKz93.out (by decide)) (fun _ hk => hk.2)) (fun _ hk => trivial)⟩, ⟨by (with_reducible repeat first | apply ra | apply rn | apply rd); exact Kd.R_mono (rf2 (Kd.R_types HOz91.out BKz93.out (by decide)) (fun _ hk => hk.2)) (fun _ hk => trivial)⟩, ⟨by (with_reducible repeat (first | refine blk_drewN ?_ _ | refine blk_drew ?_ | refine blk_alloc ?_ _)); refine blk_far ?_ NBz46_z93.out _; refine blk_far ?_ NBz46_z93.out _; (with_reducible repeat (first | refine blk_drewN ?_ _ | refine blk_drew ?_ | refine blk_alloc ?_ _)); exact BKz46.out⟩, ⟨by (with_reducible repeat (first | refine blk_drewN ?_ _ | refine blk_drew ?_ | refine blk_alloc ?_ _)); refine blk_far ?_ NBz85_z93.out _; refine blk_far ?_ NBz85_z93.out _; (with_reducible repeat (first | refine blk_drewN ?_ _ | refine blk_drew ?_ | refine blk_alloc ?_ _)); exact BKz85.out⟩, ⟨by (with_reducible repeat (first | refine blk_drewN ?_ _ | refine blk_drew ?_ | refine blk_alloc ?_ _)); apply bp2; (with_reducible repeat (first | refine blk_drewN ?_ _ | refine blk_drew ?_ | refine blk_alloc ?_ _)); exact BKz93.out⟩, (sB_ HB)⟩
   as_aux_lemma =>
    rw [if_pos c129] at H
    have c129b0 : (tz84 == 0) = true := beq_iff_eq.mpr c129
    have c129b1 : (tz84 != 0) = false := bne_eq_false_iff_eq.mpr c129
    clear c129
    by_cases c130 : tz92 = 0
    rotate_left
    ·rw [if_neg c130] at H
     have c130b0 : (tz92 == 0) = false := beq_eq_false_iff_ne.mpr c130
     have c130b1 : (tz92 != 0) = true := bne_iff_ne.mpr c130
     have H' := am H
     clear H
     go_wp2
     go_meet
     case rel => exact ⟨_, (true), (by first | rfl | (simp; done) | (simp [*]; done)), H', ⟨by have := HJ16.out; have := HK2.out; first | omega | exact Nat.le_refl _⟩, ⟨by (with_reducible repeat first | apply ra | apply rn | apply rd); exact Kd.R_mono (rf2 (Kd.R_types HO_z47000.out BKz93.out (by decide)) (fun _ hk => hk.2)) (fun _ hk => trivial)⟩, ⟨by (with_reducible repeat first | apply ra | apply rn | apply rd); exact Kd.R_mono (rf2 (Kd.R_types HO_z47001.out BKz93.out (by decide)) (fun _ hk => hk.2)) (fun _ hk => trivial)⟩, ⟨by (with_reducible repeat first | apply ra | apply rn | apply rd); exact Kd.R_mono (rf2 (Kd.R_types HOz80.out BKz93.out (by decide)) (fun _ hk => hk.2)) (fun _ hk => trivial)⟩, ⟨by (with_reducible repeat first | apply ra | apply rn | apply rd); exact Kd.R_mono (rf2 (Kd.R_types HOz83.out BKz93.out (by decide)) (fun _ hk => hk.2)) (fun _ hk => trivial)⟩, ⟨by (with_reducible repeat first | apply ra | apply rn | apply rd); exact Kd.R_mono (rf2 (Kd.R_types HOz88.out BKz93.out (by decide)) (fun _ hk => hk.2)) (fun _ hk => trivial)⟩, ⟨by (with_reducible repeat first | apply ra | apply rn | apply rd); exact Kd.R_mono (rf2 (Kd.R_types HOz91.out BKz93.out (by decide)) (fun _ hk => hk.2)) (fun _ hk => trivial)⟩, ⟨by (with_reducible repeat (first | refine blk_drewN ?_ _ | refine blk_drew ?_ | refine blk_alloc ?_ _)); refine blk_far ?_ NBz46_z93.out _; refine blk_far ?_ NBz46_z93.out _; (with_reducible repeat (first | refine blk_drewN ?_ _ | refine blk_drew ?_ | refine blk_alloc ?_ _)); exact BKz46.out⟩, ⟨by (with_reducible repeat (first | refine blk_drewN ?_ _ | refine blk_drew ?_ | refine blk_alloc ?_ _)); refine blk_far ?_ NBz85_z93.out _; refine blk_far ?_ NBz85_z93.out _; (with_reducible repeat (first | refine blk_drewN ?_ _ | refine blk_drew ?_ | refine blk_alloc ?_ _)); exact BKz85.out⟩, ⟨by (with_reducible repeat (first | refine blk_drewN ?_ _ | refine blk_drew ?_ | refine blk_alloc ?_ _)); apply bp2; (with_reducible repeat (first | refine blk_drewN ?_ _ | refine blk_drew ?_ | refine blk_alloc ?_ _)); exact BKz93.out⟩, (sB_ HB)⟩
    rw [if_pos c130] at H
    have c130b0 : (tz92 == 0) = true := beq_iff_eq.mpr c130
    have c130b1 : (tz92 != 0) = false := bne_eq_false_iff_eq.mpr c130
    clear c130
    replace H := ob_ H
    obtain ⟨tz94, A1310, H⟩ := H
    replace H : (if tz94 = true then (if (tz81.length : Int) = 0 then (if (tz78.length : Int) = (wrap64 (1 + tz2)) then (if (tz86.length : Int) = (wrap64 (1 + tz2)) then (columbariumlaw14_DiskCrashes.j2 k2 tz1 (wrap64 (1 + tz2)) ((tz39.length : Int) != (wrap64 (1 + tz2))) tz39 tz42 tz78 tz81 tz86 tz89) else (columbariumlaw14_DiskCrashes.j2 k2 tz1 (wrap64 (1 + tz2)) true tz39 tz42 tz78 tz81 tz86 tz89)) else (columbariumlaw14_DiskCrashes.j2 k2 tz1 (wrap64 (1 + tz2)) true tz39 tz42 tz78 tz81 tz86 tz89)) else (columbariumlaw14_DiskCrashes.j2 k2 tz1 (wrap64 (1 + tz2)) true tz39 tz42 tz78 tz81 tz86 tz89)) else (columbariumlaw14_DiskCrashes.j2 k2 tz1 (wrap64 (1 + tz2)) true tz39 tz42 tz78 tz81 tz86 tz89)) = some r := H
    have A131 := Aside0.mk A1310
    clear A1310
    by_cases c132 : tz94 = true
    rotate_left
    ·replace c132 := Bool.eq_false_iff.mpr c132
     subst c132
     have H1 : (columbariumlaw14_DiskCrashes.j2 k2 tz1 (wrap64 (1 + tz2)) true tz39 tz42 tz78 tz81 tz86 tz89) = some r := by rw [if_neg (show ¬ (false = true) by decide)] at H; exact H
     clear H
     have H := H1
     clear H1
     have H' := am H
     clear H
     have hnb193 := NBz66_z46.out
     have hnc193 := NBz46_z66.out
     have hnb194 := NBz66_z77.out
     have hnc194 := NBz77_z66.out
     have hnb195 := NBz66_z85.out
     have hnc195 := NBz85_z66.out
     have hnb196 := NBz66_z93.out
     have hnc196 := NBz93_z66.out
     obtain ⟨hcz197_0, hcz197_1⟩ := bc2 BKz66
     obtain ⟨hfz197_0, hfz197_1⟩ := bf2 BKz66
     have hnb198 := NBz77_z46.out
     have hnc198 := NBz46_z77.out
     have hnb199 := NBz77_z85.out
     have hnc199 := NBz85_z77.out
     have hnb200 := NBz77_z93.out
     have hnc200 := NBz93_z77.out
     obtain ⟨hcz201_0, hcz201_1⟩ := bc2 BKz77
     obtain ⟨hfz201_0, hfz201_1⟩ := bf2 BKz77
     go_wp2_with (first | (go_at_call 15; (with_reducible refine (columbariumref14_Same.calls k2 _ _ tz59 _ _ tz62 _ _ tz70 _ _ tz73 false _ ?side1 ?side2 ?side3 ?side4 ?side5 ?side6 ?side7 ?side8 A131.out).mono ?_); (case side1 => refine (Kd.R_reads' (e := 9) (base := w.heap.size) (ok := fun k_ => ((((True ∧ some k_ ≠ (.slice Ao50 tz39.length co50 : Value).ownBlock) ∧ some k_ ≠ (.slice Ao102 tz70.length co102 : Value).ownBlock) ∧ some k_ ≠ (.slice Ao110 tz78.length co110 : Value).ownBlock) ∧ some k_ ≠ (.slice Ao120 tz86.length co120 : Value).ownBlock)) (n := tz59.length) (c := co92) ?_).2.2; exact (by (with_reducible repeat first | apply ra | apply rn | apply rd); exact (rs2 HOz61 BKz93 (by decide)))); (case side2 => exact (Kd.R_reads' HOz61.out).2.1); (case side3 => refine (Kd.R_reads' (e := 24) (base := w.heap.size) (ok := fun k_ => (((((True ∧ some k_ ≠ (.slice Ao55 tz42.length co55 : Value).ownBlock) ∧ some k_ ≠ (.slice Ao99 yz67.length co99 : Value).ownBlock) ∧ some k_ ≠ (.slice Ao106 tz73.length co106 : Value).ownBlock) ∧ some k_ ≠ (.slice Ao115 tz81.length co115 : Value).ownBlock) ∧ some k_ ≠ (.slice Ao126 tz89.length co126 : Value).ownBlock)) (n := tz62.length) (c := co95) ?_).2.2; exact (by (with_reducible repeat first | apply ra | apply rn | apply rd); exact (rs2 HOz64 BKz93 (by decide)))); (case side4 => exact (Kd.R_reads' HOz64.out).2.1); (case side5 => refine (Kd.R_reads' (e := 9) (base := w.heap.size) (ok := fun k_ => ((((True ∧ some k_ ≠ (.slice Ao50 tz39.length co50 : Value).ownBlock) ∧ some k_ ≠ (.slice Ao92 tz59.length co92 : Value).ownBlock) ∧ some k_ ≠ (.slice Ao110 tz78.length co110 : Value).ownBlock) ∧ some k_ ≠ (.slice Ao120 tz86.length co120 : Value).ownBlock)) (n := tz70.length) (c := co102) ?_).2.2; exact (by (with_reducible repeat first | apply ra | apply rn | apply rd); exact (rs2 HOz72 BKz93 (by decide)))); (case side6 => exact (Kd.R_reads' HOz72.out).2.1); (case side7 => refine (Kd.R_reads' (e := 24) (base := w.heap.size) (ok := fun k_ => (((((True ∧ some k_ ≠ (.slice Ao55 tz42.length co55 : Value).ownBlock) ∧ some k_ ≠ (.slice Ao95 tz62.length co95 : Value).ownBlock) ∧ some k_ ≠ (.slice Ao99 yz67.length co99 : Value).ownBlock) ∧ some k_ ≠ (.slice Ao115 tz81.length co115 : Value).ownBlock) ∧ some k_ ≠ (.slice Ao126 tz89.length co126 : Value).ownBlock)) (n := tz73.length) (c := co106) ?_).2.2; exact (by (with_reducible repeat first | apply ra | apply rn | apply rd); exact (rs2 HOz75 BKz93 (by decide)))); (case side8 => exact (Kd.R_reads' HOz75.out).2.1); rintro e w202 ⟨rfl, hb⟩; have n0_ := am (Kd.R_below (by (with_reducible repeat first | apply ra | apply rn | apply rd); exact (rs2 HO_21 BKz93 (by decide))) hb); have n1_ := am (Kd.R_below (by (with_reducible repeat first | apply ra | apply rn | apply rd); exact (rs2 HO_22 BKz93 (by decide))) hb); have n2_ := am (Kd.R_below (by (with_reducible repeat first | apply ra | apply rn | apply rd); exact (rs2 HO_z47000 BKz93 (by decide))) hb); have n3_ := am (Kd.R_below (by (with_reducible repeat first | apply ra | apply rn | apply rd); exact (rs2 HO_z47001 BKz93 (by decide))) hb); have n4_ := am (Kd.R_below (by (with_reducible repeat first | apply ra | apply rn | apply rd); exact (rs2 HOz61 BKz93 (by decide))) hb); have n5_ := am (Kd.R_below (by (with_reducible repeat first | apply ra | apply rn | apply rd); exact (rs2 HOz64 BKz93 (by decide))) hb); have n6_ := am (Kd.R_below (by (with_reducible repeat first | apply ra | apply rn | apply rd); exact (rs2 HOz69 BKz93 (by decide))) hb); have n7_ := am (Kd.R_below (by (with_reducible repeat first | apply ra | apply rn | apply rd); exact (rs2 HOz72 BKz93 (by decide))) hb); have n8_ := am (Kd.R_below (by (with_reducible repeat first | apply ra | apply rn | apply rd); exact (rs2 HOz75 BKz93 (by decide))) hb); have n9_ := am (Kd.R_below (by (with_reducible repeat first | apply ra | apply rn | apply rd); exact (rs2 HOz80 BKz93 (by decide))) hb); have n10_ := am (Kd.R_below (by (with_reducible repeat first | apply ra | apply rn | apply rd); exact (rs2 HOz83 BKz93 (by decide))) hb); have n11_ := am (Kd.R_below (by (with_reducible repeat first | apply ra | apply rn | apply rd); exact (rs2 HOz88 BKz93 (by decide))) hb); have n12_ := am (Kd.R_below (by (with_reducible repeat first | apply ra | apply rn | apply rd); exact (rs2 HOz91 BKz93 (by decide))) hb); have n13_ := am (blk_below (g := gbz46) (o := .cells #[.slice Ao50 tz39.length co50, .slice Ao55 tz42.length co55] 30 (0, 0)) (by (with_reducible repeat (first | refine blk_drewN ?_ _ | refine blk_drew ?_ | refine blk_alloc ?_ _)); refine blk_far ?_ NBz46_z93.out _; refine blk_far ?_ NBz46_z93.out _; exact pk BKz46) hb); have n14_ := am (blk_below (g := gbz66) (o := .cells #[.slice Ao92 tz59.length co92, .slice Ao95 tz62.length co95] 30 (0, 0)) (by (with_reducible repeat (first | refine blk_drewN ?_ _ | refine blk_drew ?_ | refine blk_alloc ?_ _)); refine blk_far ?_ NBz66_z93.out _; refine blk_far ?_ NBz66_z93.out _; exact pk BKz66) hb); have n15_ := am (blk_below (g := gbz77) (o := .cells #[.slice Ao102 tz70.length co102, .slice Ao106 tz73.length co106] 30 (0, 0)) (by (with_reducible repeat (first | refine blk_drewN ?_ _ | refine blk_drew ?_ | refine blk_alloc ?_ _)); refine blk_far ?_ NBz77_z93.out _; refine blk_far ?_ NBz77_z93.out _; exact pk BKz77) hb); have n16_ := am (blk_below (g := gbz85) (o := .cells #[.slice Ao110 tz78.length co110, .slice Ao115 tz81.length co115] 30 (0, 0)) (by (with_reducible repeat (first | refine blk_drewN ?_ _ | refine blk_drew ?_ | refine blk_alloc ?_ _)); refine blk_far ?_ NBz85_z93.out _; refine blk_far ?_ NBz85_z93.out _; exact pk BKz85) hb); have n17_ := am (blk_below (g := gbz93) (o := .cells #[.slice Ao120 tz86.length co120, .slice Ao126 tz89.length co126] 30 (0, 0)) (by (with_reducible repeat (first | refine blk_drewN ?_ _ | refine blk_drew ?_ | refine blk_alloc ?_ _)); apply bp2; exact pk BKz93) hb); have n18_ := am (below_step (sC_ HB) hb); clear HO_21; clear HO_22; clear HO_z47000; clear HO_z47001; clear HOz61; clear HOz64; clear HOz69; clear HOz72; clear HOz75; clear HOz80; clear HOz83; clear HOz88; clear HOz91; clear BKz46; clear BKz66; clear BKz77; clear BKz85; clear BKz93; clear HB; have HO_21 := n0_; have HO_22 := n1_; have HO_z47000 := n2_; have HO_z47001 := n3_; have HOz61 := n4_; have HOz64 := n5_; have HOz69 := n6_; have HOz72 := n7_; have HOz75 := n8_; have HOz80 := n9_; have HOz83 := n10_; have HOz88 := n11_; have HOz91 := n12_; have BKz46 := n13_; have BKz66 := n14_; have BKz77 := n15_; have BKz85 := n16_; have BKz93 := n17_; have HB := n18_; clear n0_ n1_ n2_ n3_ n4_ n5_ n6_ n7_ n8_ n9_ n10_ n11_ n12_ n13_ n14_ n15_ n16_ n17_ n18_; (try clear hi)))
     go_meet
     case rel => exact ⟨_, (true), (by first | rfl | (simp; done) | (simp [*]; done)), H', ⟨by have := HJ16.out; have := HK2.out; first | omega | exact Nat.le_refl _⟩, ⟨by (with_reducible repeat first | apply ra | apply rn | apply rd); exact Kd.R_mono HO_z47000.out (fun _ hk => trivial)⟩, ⟨by (with_reducible repeat first | apply ra | apply rn | apply rd); exact Kd.R_mono HO_z47001.out (fun _ hk => trivial)⟩, ⟨by (with_reducible repeat first | apply ra | apply rn | apply rd); exact Kd.R_mono HOz80.out (fun _ hk => trivial)⟩, ⟨by (with_reducible repeat first | apply ra | apply rn | apply rd); exact Kd.R_mono HOz83.out (fun _ hk => trivial)⟩, ⟨by (with_reducible repeat first | apply ra | apply rn | apply rd); exact Kd.R_mono HOz88.out (fun _ hk => trivial)⟩, ⟨by (with_reducible repeat first | apply ra | apply rn | apply rd); exact Kd.R_mono HOz91.out (fun _ hk => trivial)⟩, (sk_ BKz46), (sk_ BKz85), (sk_ BKz93), (sB_ HB)⟩
    as_aux_lemma =>
     subst c132
     have H1 : (if (tz81.length : Int) = 0 then (if (tz78.length : Int) = (wrap64 (1 + tz2)) then (if (tz86.length : Int) = (wrap64 (1 + tz2)) then (columbariumlaw14_DiskCrashes.j2 k2 tz1 (wrap64 (1 + tz2)) ((tz39.length : Int) != (wrap64 (1 + tz2))) tz39 tz42 tz78 tz81 tz86 tz89) else (columbariumlaw14_DiskCrashes.j2 k2 tz1 (wrap64 (1 + tz2)) true tz39 tz42 tz78 tz81 tz86 tz89)) else (columbariumlaw14_DiskCrashes.j2 k2 tz1 (wrap64 (1 + tz2)) true tz39 tz42 tz78 tz81 tz86 tz89)) else (columbariumlaw14_DiskCrashes.j2 k2 tz1 (wrap64 (1 + tz2)) true tz39 tz42 tz78 tz81 tz86 tz89)) = some r := by rw [if_pos rfl] at H; exact H
     clear H
     have H := H1
     clear H1
     by_cases c133 : (tz81.length : Int) = 0
     rotate_left
     ·rw [if_neg c133] at H
      have c133b0 : ((tz81.length : Int) == 0) = false := beq_eq_false_iff_ne.mpr c133
      have c133b1 : ((tz81.length : Int) != 0) = true := bne_iff_ne.mpr c133
      have c133b2 : ¬ (tz81 = []) := fun h_ => c133 (by rw [h_]; rfl)
      have H' := am H
      clear H
      have hnb180 := NBz66_z46.out
      have hnc180 := NBz46_z66.out
      have hnb181 := NBz66_z77.out
      have hnc181 := NBz77_z66.out
      have hnb182 := NBz66_z85.out
      have hnc182 := NBz85_z66.out
      have hnb183 := NBz66_z93.out
      have hnc183 := NBz93_z66.out
      obtain ⟨hcz184_0, hcz184_1⟩ := bc2 BKz66
      obtain ⟨hfz184_0, hfz184_1⟩ := bf2 BKz66
      have hnb185 := NBz77_z46.out
      have hnc185 := NBz46_z77.out
      have hnb186 := NBz77_z85.out
      have hnc186 := NBz85_z77.out
      have hnb187 := NBz77_z93.out
      have hnc187 := NBz93_z77.out
      obtain ⟨hcz188_0, hcz188_1⟩ := bc2 BKz77
      obtain ⟨hfz188_0, hfz188_1⟩ := bf2 BKz77
      go_wp2_with (first | (go_at_call 15; (with_reducible refine (columbariumref14_Same.calls k2 _ _ tz59 _ _ tz62 _ _ tz70 _ _ tz73 true _ ?side1 ?side2 ?side3 ?side4 ?side5 ?side6 ?side7 ?side8 A131.out).mono ?_); (case side1 => refine (Kd.R_reads' (e := 9) (base := w.heap.size) (ok := fun k_ => ((((True ∧ some k_ ≠ (.slice Ao50 tz39.length co50 : Value).ownBlock) ∧ some k_ ≠ (.slice Ao102 tz70.length co102 : Value).ownBlock) ∧ some k_ ≠ (.slice Ao110 tz78.length co110 : Value).ownBlock) ∧ some k_ ≠ (.slice Ao120 tz86.length co120 : Value).ownBlock)) (n := tz59.length) (c := co92) ?_).2.2; exact (by (with_reducible repeat first | apply ra | apply rn | apply rd); exact (rs2 HOz61 BKz93 (by decide)))); (case side2 => exact (Kd.R_reads' HOz61.out).2.1); (case side3 => refine (Kd.R_reads' (e := 24) (base := w.heap.size) (ok := fun k_ => (((((True ∧ some k_ ≠ (.slice Ao55 tz42.length co55 : Value).ownBlock) ∧ some k_ ≠ (.slice Ao99 yz67.length co99 : Value).ownBlock) ∧ some k_ ≠ (.slice Ao106 tz73.length co106 : Value).ownBlock) ∧ some k_ ≠ (.slice Ao115 tz81.length co115 : Value).ownBlock) ∧ some k_ ≠ (.slice Ao126 tz89.length co126 : Value).ownBlock)) (n := tz62.length) (c := co95) ?_).2.2; exact (by (with_reducible repeat first | apply ra | apply rn | apply rd); exact (rs2 HOz64 BKz93 (by decide)))); (case side4 => exact (Kd.R_reads' HOz64.out).2.1); (case side5 => refine (Kd.R_reads' (e := 9) (base := w.heap.size) (ok := fun k_ => ((((True ∧ some k_ ≠ (.slice Ao50 tz39.length co50 : Value).ownBlock) ∧ some k_ ≠ (.slice Ao92 tz59.length co92 : Value).ownBlock) ∧ some k_ ≠ (.slice Ao110 tz78.length co110 : Value).ownBlock) ∧ some k_ ≠ (.slice Ao120 tz86.length co120 : Value).ownBlock)) (n := tz70.length) (c := co102) ?_).2.2; exact (by (with_reducible repeat first | apply ra | apply rn | apply rd); exact (rs2 HOz72 BKz93 (by decide)))); (case side6 => exact (Kd.R_reads' HOz72.out).2.1); (case side7 => refine (Kd.R_reads' (e := 24) (base := w.heap.size) (ok := fun k_ => (((((True ∧ some k_ ≠ (.slice Ao55 tz42.length co55 : Value).ownBlock) ∧ some k_ ≠ (.slice Ao95 tz62.length co95 : Value).ownBlock) ∧ some k_ ≠ (.slice Ao99 yz67.length co99 : Value).ownBlock) ∧ some k_ ≠ (.slice Ao115 tz81.length co115 : Value).ownBlock) ∧ some k_ ≠ (.slice Ao126 tz89.length co126 : Value).ownBlock)) (n := tz73.length) (c := co106) ?_).2.2; exact (by (with_reducible repeat first | apply ra | apply rn | apply rd); exact (rs2 HOz75 BKz93 (by decide)))); (case side8 => exact (Kd.R_reads' HOz75.out).2.1); rintro e w189 ⟨rfl, hb⟩; have n0_ := am (Kd.R_below (by (with_reducible repeat first | apply ra | apply rn | apply rd); exact (rs2 HO_21 BKz93 (by decide))) hb); have n1_ := am (Kd.R_below (by (with_reducible repeat first | apply ra | apply rn | apply rd); exact (rs2 HO_22 BKz93 (by decide))) hb); have n2_ := am (Kd.R_below (by (with_reducible repeat first | apply ra | apply rn | apply rd); exact (rs2 HO_z47000 BKz93 (by decide))) hb); have n3_ := am (Kd.R_below (by (with_reducible repeat first | apply ra | apply rn | apply rd); exact (rs2 HO_z47001 BKz93 (by decide))) hb); have n4_ := am (Kd.R_below (by (with_reducible repeat first | apply ra | apply rn | apply rd); exact (rs2 HOz61 BKz93 (by decide))) hb); have n5_ := am (Kd.R_below (by (with_reducible repeat first | apply ra | apply rn | apply rd); exact (rs2 HOz64 BKz93 (by decide))) hb); have n6_ := am (Kd.R_below (by (with_reducible repeat first | apply ra | apply rn | apply rd); exact (rs2 HOz69 BKz93 (by decide))) hb); have n7_ := am (Kd.R_below (by (with_reducible repeat first | apply ra | apply rn | apply rd); exact (rs2 HOz72 BKz93 (by decide))) hb); have n8_ := am (Kd.R_below (by (with_reducible repeat first | apply ra | apply rn | apply rd); exact (rs2 HOz75 BKz93 (by decide))) hb); have n9_ := am (Kd.R_below (by (with_reducible repeat first | apply ra | apply rn | apply rd); exact (rs2 HOz80 BKz93 (by decide))) hb); have n10_ := am (Kd.R_below (by (with_reducible repeat first | apply ra | apply rn | apply rd); exact (rs2 HOz83 BKz93 (by decide))) hb); have n11_ := am (Kd.R_below (by (with_reducible repeat first | apply ra | apply rn | apply rd); exact (rs2 HOz88 BKz93 (by decide))) hb); have n12_ := am (Kd.R_below (by (with_reducible repeat first | apply ra | apply rn | apply rd); exact (rs2 HOz91 BKz93 (by decide))) hb); have n13_ := am (blk_below (g := gbz46) (o := .cells #[.slice Ao50 tz39.length co50, .slice Ao55 tz42.length co55] 30 (0, 0)) (by (with_reducible repeat (first | refine blk_drewN ?_ _ | refine blk_drew ?_ | refine blk_alloc ?_ _)); refine blk_far ?_ NBz46_z93.out _; refine blk_far ?_ NBz46_z93.out _; exact pk BKz46) hb); have n14_ := am (blk_below (g := gbz66) (o := .cells #[.slice Ao92 tz59.length co92, .slice Ao95 tz62.length co95] 30 (0, 0)) (by (with_reducible repeat (first | refine blk_drewN ?_ _ | refine blk_drew ?_ | refine blk_alloc ?_ _)); refine blk_far ?_ NBz66_z93.out _; refine blk_far ?_ NBz66_z93.out _; exact pk BKz66) hb); have n15_ := am (blk_below (g := gbz77) (o := .cells #[.slice Ao102 tz70.length co102, .slice Ao106 tz73.length co106] 30 (0, 0)) (by (with_reducible repeat (first | refine blk_drewN ?_ _ | refine blk_drew ?_ | refine blk_alloc ?_ _)); refine blk_far ?_ NBz77_z93.out _; refine blk_far ?_ NBz77_z93.out _; exact pk BKz77) hb); have n16_ := am (blk_below (g := gbz85) (o := .cells #[.slice Ao110 tz78.length co110, .slice Ao115 tz81.length co115] 30 (0, 0)) (by (with_reducible repeat (first | refine blk_drewN ?_ _ | refine blk_drew ?_ | refine blk_alloc ?_ _)); refine blk_far ?_ NBz85_z93.out _; refine blk_far ?_ NBz85_z93.out _; exact pk BKz85) hb); have n17_ := am (blk_below (g := gbz93) (o := .cells #[.slice Ao120 tz86.length co120, .slice Ao126 tz89.length co126] 30 (0, 0)) (by (with_reducible repeat (first | refine blk_drewN ?_ _ | refine blk_drew ?_ | refine blk_alloc ?_ _)); apply bp2; exact pk BKz93) hb); have n18_ := am (below_step (sC_ HB) hb); clear HO_21; clear HO_22; clear HO_z47000; clear HO_z47001; clear HOz61; clear HOz64; clear HOz69; clear HOz72; clear HOz75; clear HOz80; clear HOz83; clear HOz88; clear HOz91; clear BKz46; clear BKz66; clear BKz77; clear BKz85; clear BKz93; clear HB; have HO_21 := n0_; have HO_22 := n1_; have HO_z47000 := n2_; have HO_z47001 := n3_; have HOz61 := n4_; have HOz64 := n5_; have HOz69 := n6_; have HOz72 := n7_; have HOz75 := n8_; have HOz80 := n9_; have HOz83 := n10_; have HOz88 := n11_; have HOz91 := n12_; have BKz46 := n13_; have BKz66 := n14_; have BKz77 := n15_; have BKz85 := n16_; have BKz93 := n17_; have HB := n18_; clear n0_ n1_ n2_ n3_ n4_ n5_ n6_ n7_ n8_ n9_ n10_ n11_ n12_ n13_ n14_ n15_ n16_ n17_ n18_; have hnb190 := NBz85_z46.out; have hnc190 := NBz46_z85.out; have hnb191 := NBz85_z93.out; have hnc191 := NBz93_z85.out; obtain ⟨hcz192_0, hcz192_1⟩ := bc2 BKz85; obtain ⟨hfz192_0, hfz192_1⟩ := bf2 BKz85))
      go_meet
      case rel => exact ⟨_, (true), (by first | rfl | (simp; done) | (simp [*]; done)), H', ⟨by have := HJ16.out; have := HK2.out; first | omega | exact Nat.le_refl _⟩, ⟨by (with_reducible repeat first | apply ra | apply rn | apply rd); exact Kd.R_mono HO_z47000.out (fun _ hk => trivial)⟩, ⟨by (with_reducible repeat first | apply ra | apply rn | apply rd); exact Kd.R_mono HO_z47001.out (fun _ hk => trivial)⟩, ⟨by (with_reducible repeat first | apply ra | apply rn | apply rd); exact Kd.R_mono HOz80.out (fun _ hk => trivial)⟩, ⟨by (with_reducible repeat first | apply ra | apply rn | apply rd); exact Kd.R_mono HOz83.out (fun _ hk => trivial)⟩, ⟨by (with_reducible repeat first | apply ra | apply rn | apply rd); exact Kd.R_mono HOz88.out (fun _ hk => trivial)⟩, ⟨by (with_reducible repeat first | apply ra | apply rn | apply rd); exact Kd.R_mono HOz91.out (fun _ hk => trivial)⟩, (sk_ BKz46), (sk_ BKz85), (sk_ BKz93), (sB_ HB)⟩
     as_aux_lemma =>
      rw [if_pos c133] at H
      have c133b0 : ((tz81.length : Int) == 0) = true := beq_iff_eq.mpr c133
      have c133b1 : ((tz81.length : Int) != 0) = false := bne_eq_false_iff_eq.mpr c133
      clear c133
      by_cases c134 : (tz78.length : Int) = (wrap64 (1 + tz2))
      rotate_left
      ·rw [if_neg c134] at H
       have c134b0 : ((tz78.length : Int) == (wrap64 (1 + tz2))) = false := beq_eq_false_iff_ne.mpr c134
       have c134b1 : ((tz78.length : Int) != (wrap64 (1 + tz2))) = true := bne_iff_ne.mpr c134
       have H' := am H
       clear H
       have hnb167 := NBz66_z46.out
       have hnc167 := NBz46_z66.out
       have hnb168 := NBz66_z77.out
       have hnc168 := NBz77_z66.out
       have hnb169 := NBz66_z85.out
       have hnc169 := NBz85_z66.out
       have hnb170 := NBz66_z93.out
       have hnc170 := NBz93_z66.out
       obtain ⟨hcz171_0, hcz171_1⟩ := bc2 BKz66
       obtain ⟨hfz171_0, hfz171_1⟩ := bf2 BKz66
       have hnb172 := NBz77_z46.out
       have hnc172 := NBz46_z77.out
       have hnb173 := NBz77_z85.out
       have hnc173 := NBz85_z77.out
       have hnb174 := NBz77_z93.out
       have hnc174 := NBz93_z77.out
       obtain ⟨hcz175_0, hcz175_1⟩ := bc2 BKz77
       obtain ⟨hfz175_0, hfz175_1⟩ := bf2 BKz77
       go_wp2_with (first | (go_at_call 15; (with_reducible refine (columbariumref14_Same.calls k2 _ _ tz59 _ _ tz62 _ _ tz70 _ _ tz73 true _ ?side1 ?side2 ?side3 ?side4 ?side5 ?side6 ?side7 ?side8 A131.out).mono ?_); (case side1 => refine (Kd.R_reads' (e := 9) (base := w.heap.size) (ok := fun k_ => ((((True ∧ some k_ ≠ (.slice Ao50 tz39.length co50 : Value).ownBlock) ∧ some k_ ≠ (.slice Ao102 tz70.length co102 : Value).ownBlock) ∧ some k_ ≠ (.slice Ao110 tz78.length co110 : Value).ownBlock) ∧ some k_ ≠ (.slice Ao120 tz86.length co120 : Value).ownBlock)) (n := tz59.length) (c := co92) ?_).2.2; exact (by (with_reducible repeat first | apply ra | apply rn | apply rd); exact (rs2 HOz61 BKz93 (by decide)))); (case side2 => exact (Kd.R_reads' HOz61.out).2.1); (case side3 => refine (Kd.R_reads' (e := 24) (base := w.heap.size) (ok := fun k_ => (((((True ∧ some k_ ≠ (.slice Ao55 tz42.length co55 : Value).ownBlock) ∧ some k_ ≠ (.slice Ao99 yz67.length co99 : Value).ownBlock) ∧ some k_ ≠ (.slice Ao106 tz73.length co106 : Value).ownBlock) ∧ some k_ ≠ (.slice Ao115 tz81.length co115 : Value).ownBlock) ∧ some k_ ≠ (.slice Ao126 tz89.length co126 : Value).ownBlock)) (n := tz62.length) (c := co95) ?_).2.2; exact (by (with_reducible repeat first | apply ra | apply rn | apply rd); exact (rs2 HOz64 BKz93 (by decide)))); (case side4 => exact (Kd.R_reads' HOz64.out).2.1); (case side5 => refine (Kd.R_reads' (e := 9) (base := w.heap.size) (ok := fun k_ => ((((True ∧ some k_ ≠ (.slice Ao50 tz39.length co50 : Value).ownBlock) ∧ some k_ ≠ (.slice Ao92 tz59.length co92 : Value).ownBlock) ∧ some k_ ≠ (.slice Ao110 tz78.length co110 : Value).ownBlock) ∧ some k_ ≠ (.slice Ao120 tz86.length co120 : Value).ownBlock)) (n := tz70.length) (c := co102) ?_).2.2; exact (by (with_reducible repeat first | apply ra | apply rn | apply rd); exact (rs2 HOz72 BKz93 (by decide)))); (case side6 => exact (Kd.R_reads' HOz72.out).2.1); (case side7 => refine (Kd.R_reads' (e := 24) (base := w.heap.size) (ok := fun k_ => (((((True ∧ some k_ ≠ (.slice Ao55 tz42.length co55 : Value).ownBlock) ∧ some k_ ≠ (.slice Ao95 tz62.length co95 : Value).ownBlock) ∧ some k_ ≠ (.slice Ao99 yz67.length co99 : Value).ownBlock) ∧ some k_ ≠ (.slice Ao115 tz81.length co115 : Value).ownBlock) ∧ some k_ ≠ (.slice Ao126 tz89.length co126 : Value).ownBlock)) (n := tz73.length) (c := co106) ?_).2.2; exact (by (with_reducible repeat first | apply ra | apply rn | apply rd); exact (rs2 HOz75 BKz93 (by decide)))); (case side8 => exact (Kd.R_reads' HOz75.out).2.1); rintro e w176 ⟨rfl, hb⟩; have n0_ := am (Kd.R_below (by (with_reducible repeat first | apply ra | apply rn | apply rd); exact (rs2 HO_21 BKz93 (by decide))) hb); have n1_ := am (Kd.R_below (by (with_reducible repeat first | apply ra | apply rn | apply rd); exact (rs2 HO_22 BKz93 (by decide))) hb); have n2_ := am (Kd.R_below (by (with_reducible repeat first | apply ra | apply rn | apply rd); exact (rs2 HO_z47000 BKz93 (by decide))) hb); have n3_ := am (Kd.R_below (by (with_reducible repeat first | apply ra | apply rn | apply rd); exact (rs2 HO_z47001 BKz93 (by decide))) hb); have n4_ := am (Kd.R_below (by (with_reducible repeat first | apply ra | apply rn | apply rd); exact (rs2 HOz61 BKz93 (by decide))) hb); have n5_ := am (Kd.R_below (by (with_reducible repeat first | apply ra | apply rn | apply rd); exact (rs2 HOz64 BKz93 (by decide))) hb); have n6_ := am (Kd.R_below (by (with_reducible repeat first | apply ra | apply rn | apply rd); exact (rs2 HOz69 BKz93 (by decide))) hb); have n7_ := am (Kd.R_below (by (with_reducible repeat first | apply ra | apply rn | apply rd); exact (rs2 HOz72 BKz93 (by decide))) hb); have n8_ := am (Kd.R_below (by (with_reducible repeat first | apply ra | apply rn | apply rd); exact (rs2 HOz75 BKz93 (by decide))) hb); have n9_ := am (Kd.R_below (by (with_reducible repeat first | apply ra | apply rn | apply rd); exact (rs2 HOz80 BKz93 (by decide))) hb); have n10_ := am (Kd.R_below (by (with_reducible repeat first | apply ra | apply rn | apply rd); exact (rs2 HOz83 BKz93 (by decide))) hb); have n11_ := am (Kd.R_below (by (with_reducible repeat first | apply ra | apply rn | apply rd); exact (rs2 HOz88 BKz93 (by decide))) hb); have n12_ := am (Kd.R_below (by (with_reducible repeat first | apply ra | apply rn | apply rd); exact (rs2 HOz91 BKz93 (by decide))) hb); have n13_ := am (blk_below (g := gbz46) (o := .cells #[.slice Ao50 tz39.length co50, .slice Ao55 tz42.length co55] 30 (0, 0)) (by (with_reducible repeat (first | refine blk_drewN ?_ _ | refine blk_drew ?_ | refine blk_alloc ?_ _)); refine blk_far ?_ NBz46_z93.out _; refine blk_far ?_ NBz46_z93.out _; exact pk BKz46) hb); have n14_ := am (blk_below (g := gbz66) (o := .cells #[.slice Ao92 tz59.length co92, .slice Ao95 tz62.length co95] 30 (0, 0)) (by (with_reducible repeat (first | refine blk_drewN ?_ _ | refine blk_drew ?_ | refine blk_alloc ?_ _)); refine blk_far ?_ NBz66_z93.out _; refine blk_far ?_ NBz66_z93.out _; exact pk BKz66) hb); have n15_ := am (blk_below (g := gbz77) (o := .cells #[.slice Ao102 tz70.length co102, .slice Ao106 tz73.length co106] 30 (0, 0)) (by (with_reducible repeat (first | refine blk_drewN ?_ _ | refine blk_drew ?_ | refine blk_alloc ?_ _)); refine blk_far ?_ NBz77_z93.out _; refine blk_far ?_ NBz77_z93.out _; exact pk BKz77) hb); have n16_ := am (blk_below (g := gbz85) (o := .cells #[.slice Ao110 tz78.length co110, .slice Ao115 tz81.length co115] 30 (0, 0)) (by (with_reducible repeat (first | refine blk_drewN ?_ _ | refine blk_drew ?_ | refine blk_alloc ?_ _)); refine blk_far ?_ NBz85_z93.out _; refine blk_far ?_ NBz85_z93.out _; exact pk BKz85) hb); have n17_ := am (blk_below (g := gbz93) (o := .cells #[.slice Ao120 tz86.length co120, .slice Ao126 tz89.length co126] 30 (0, 0)) (by (with_reducible repeat (first | refine blk_drewN ?_ _ | refine blk_drew ?_ | refine blk_alloc ?_ _)); apply bp2; exact pk BKz93) hb); have n18_ := am (below_step (sC_ HB) hb); clear HO_21; clear HO_22; clear HO_z47000; clear HO_z47001; clear HOz61; clear HOz64; clear HOz69; clear HOz72; clear HOz75; clear HOz80; clear HOz83; clear HOz88; clear HOz91; clear BKz46; clear BKz66; clear BKz77; clear BKz85; clear BKz93; clear HB; have HO_21 := n0_; have HO_22 := n1_; have HO_z47000 := n2_; have HO_z47001 := n3_; have HOz61 := n4_; have HOz64 := n5_; have HOz69 := n6_; have HOz72 := n7_; have HOz75 := n8_; have HOz80 := n9_; have HOz83 := n10_; have HOz88 := n11_; have HOz91 := n12_; have BKz46 := n13_; have BKz66 := n14_; have BKz77 := n15_; have BKz85 := n16_; have BKz93 := n17_; have HB := n18_; clear n0_ n1_ n2_ n3_ n4_ n5_ n6_ n7_ n8_ n9_ n10_ n11_ n12_ n13_ n14_ n15_ n16_ n17_ n18_; have hnb177 := NBz85_z46.out; have hnc177 := NBz46_z85.out; have hnb178 := NBz85_z93.out; have hnc178 := NBz93_z85.out; obtain ⟨hcz179_0, hcz179_1⟩ := bc2 BKz85; obtain ⟨hfz179_0, hfz179_1⟩ := bf2 BKz85))
       go_meet
       case rel => exact ⟨_, (true), (by first | rfl | (simp; done) | (simp [*]; done)), H', ⟨by have := HJ16.out; have := HK2.out; first | omega | exact Nat.le_refl _⟩, ⟨by (with_reducible repeat first | apply ra | apply rn | apply rd); exact Kd.R_mono HO_z47000.out (fun _ hk => trivial)⟩, ⟨by (with_reducible repeat first | apply ra | apply rn | apply rd); exact Kd.R_mono HO_z47001.out (fun _ hk => trivial)⟩, ⟨by (with_reducible repeat first | apply ra | apply rn | apply rd); exact Kd.R_mono HOz80.out (fun _ hk => trivial)⟩, ⟨by (with_reducible repeat first | apply ra | apply rn | apply rd); exact Kd.R_mono HOz83.out (fun _ hk => trivial)⟩, ⟨by (with_reducible repeat first | apply ra | apply rn | apply rd); exact Kd.R_mono HOz88.out (fun _ hk => trivial)⟩, ⟨by (with_reducible repeat first | apply ra | apply rn | apply rd); exact Kd.R_mono HOz91.out (fun _ hk => trivial)⟩, (sk_ BKz46), (sk_ BKz85), (sk_ BKz93), (sB_ HB)⟩
      as_aux_lemma =>
       rw [if_pos c134] at H
       have c134b0 : ((tz78.length : Int) == (wrap64 (1 + tz2))) = true := beq_iff_eq.mpr c134
       have c134b1 : ((tz78.length : Int) != (wrap64 (1 + tz2))) = false := bne_eq_false_iff_eq.mpr c134
       clear c134
       by_cases c135 : (tz86.length : Int) = (wrap64 (1 + tz2))
       rotate_left
       ·rw [if_neg c135] at H
        have c135b0 : ((tz86.length : Int) == (wrap64 (1 + tz2))) = false := beq_eq_false_iff_ne.mpr c135
        have c135b1 : ((tz86.length : Int) != (wrap64 (1 + tz2))) = true := bne_iff_ne.mpr c135
        have H' := am H
        clear H
        have hnb152 := NBz66_z46.out
        have hnc152 := NBz46_z66.out
        have hnb153 := NBz66_z77.out
        have hnc153 := NBz77_z66.out
        have hnb154 := NBz66_z85.out
        have hnc154 := NBz85_z66.out
        have hnb155 := NBz66_z93.out
        have hnc155 := NBz93_z66.out
        obtain ⟨hcz156_0, hcz156_1⟩ := bc2 BKz66
        obtain ⟨hfz156_0, hfz156_1⟩ := bf2 BKz66
        have hnb157 := NBz77_z46.out
        have hnc157 := NBz46_z77.out
        have hnb158 := NBz77_z85.out
        have hnc158 := NBz85_z77.out
        have hnb159 := NBz77_z93.out
        have hnc159 := NBz93_z77.out
        obtain ⟨hcz160_0, hcz160_1⟩ := bc2 BKz77
        obtain ⟨hfz160_0, hfz160_1⟩ := bf2 BKz77
        go_wp2_with (first | (go_at_call 15; (with_reducible refine (columbariumref14_Same.calls k2 _ _ tz59 _ _ tz62 _ _ tz70 _ _ tz73 true _ ?side1 ?side2 ?side3 ?side4 ?side5 ?side6 ?side7 ?side8 A131.out).mono ?_); (case side1 => refine (Kd.R_reads' (e := 9) (base := w.heap.size) (ok := fun k_ => ((((True ∧ some k_ ≠ (.slice Ao50 tz39.length co50 : Value).ownBlock) ∧ some k_ ≠ (.slice Ao102 tz70.length co102 : Value).ownBlock) ∧ some k_ ≠ (.slice Ao110 tz78.length co110 : Value).ownBlock) ∧ some k_ ≠ (.slice Ao120 tz86.length co120 : Value).ownBlock)) (n := tz59.length) (c := co92) ?_).2.2; exact (by (with_reducible repeat first | apply ra | apply rn | apply rd); exact (rs2 HOz61 BKz93 (by decide)))); (case side2 => exact (Kd.R_reads' HOz61.out).2.1); (case side3 => refine (Kd.R_reads' (e := 24) (base := w.heap.size) (ok := fun k_ => (((((True ∧ some k_ ≠ (.slice Ao55 tz42.length co55 : Value).ownBlock) ∧ some k_ ≠ (.slice Ao99 yz67.length co99 : Value).ownBlock) ∧ some k_ ≠ (.slice Ao106 tz73.length co106 : Value).ownBlock) ∧ some k_ ≠ (.slice Ao115 tz81.length co115 : Value).ownBlock) ∧ some k_ ≠ (.slice Ao126 tz89.length co126 : Value).ownBlock)) (n := tz62.length) (c := co95) ?_).2.2; exact (by (with_reducible repeat first | apply ra | apply rn | apply rd); exact (rs2 HOz64 BKz93 (by decide)))); (case side4 => exact (Kd.R_reads' HOz64.out).2.1); (case side5 => refine (Kd.R_reads' (e := 9) (base := w.heap.size) (ok := fun k_ => ((((True ∧ some k_ ≠ (.slice Ao50 tz39.length co50 : Value).ownBlock) ∧ some k_ ≠ (.slice Ao92 tz59.length co92 : Value).ownBlock) ∧ some k_ ≠ (.slice Ao110 tz78.length co110 : Value).ownBlock) ∧ some k_ ≠ (.slice Ao120 tz86.length co120 : Value).ownBlock)) (n := tz70.length) (c := co102) ?_).2.2; exact (by (with_reducible repeat first | apply ra | apply rn | apply rd); exact (rs2 HOz72 BKz93 (by decide)))); (case side6 => exact (Kd.R_reads' HOz72.out).2.1); (case side7 => refine (Kd.R_reads' (e := 24) (base := w.heap.size) (ok := fun k_ => (((((True ∧ some k_ ≠ (.slice Ao55 tz42.length co55 : Value).ownBlock) ∧ some k_ ≠ (.slice Ao95 tz62.length co95 : Value).ownBlock) ∧ some k_ ≠ (.slice Ao99 yz67.length co99 : Value).ownBlock) ∧ some k_ ≠ (.slice Ao115 tz81.length co115 : Value).ownBlock) ∧ some k_ ≠ (.slice Ao126 tz89.length co126 : Value).ownBlock)) (n := tz73.length) (c := co106) ?_).2.2; exact (by (with_reducible repeat first | apply ra | apply rn | apply rd); exact (rs2 HOz75 BKz93 (by decide)))); (case side8 => exact (Kd.R_reads' HOz75.out).2.1); rintro e w161 ⟨rfl, hb⟩; have n0_ := am (Kd.R_below (by (with_reducible repeat first | apply ra | apply rn | apply rd); exact (rs2 HO_21 BKz93 (by decide))) hb); have n1_ := am (Kd.R_below (by (with_reducible repeat first | apply ra | apply rn | apply rd); exact (rs2 HO_22 BKz93 (by decide))) hb); have n2_ := am (Kd.R_below (by (with_reducible repeat first | apply ra | apply rn | apply rd); exact (rs2 HO_z47000 BKz93 (by decide))) hb); have n3_ := am (Kd.R_below (by (with_reducible repeat first | apply ra | apply rn | apply rd); exact (rs2 HO_z47001 BKz93 (by decide))) hb); have n4_ := am (Kd.R_below (by (with_reducible repeat first | apply ra | apply rn | apply rd); exact (rs2 HOz61 BKz93 (by decide))) hb); have n5_ := am (Kd.R_below (by (with_reducible repeat first | apply ra | apply rn | apply rd); exact (rs2 HOz64 BKz93 (by decide))) hb); have n6_ := am (Kd.R_below (by (with_reducible repeat first | apply ra | apply rn | apply rd); exact (rs2 HOz69 BKz93 (by decide))) hb); have n7_ := am (Kd.R_below (by (with_reducible repeat first | apply ra | apply rn | apply rd); exact (rs2 HOz72 BKz93 (by decide))) hb); have n8_ := am (Kd.R_below (by (with_reducible repeat first | apply ra | apply rn | apply rd); exact (rs2 HOz75 BKz93 (by decide))) hb); have n9_ := am (Kd.R_below (by (with_reducible repeat first | apply ra | apply rn | apply rd); exact (rs2 HOz80 BKz93 (by decide))) hb); have n10_ := am (Kd.R_below (by (with_reducible repeat first | apply ra | apply rn | apply rd); exact (rs2 HOz83 BKz93 (by decide))) hb); have n11_ := am (Kd.R_below (by (with_reducible repeat first | apply ra | apply rn | apply rd); exact (rs2 HOz88 BKz93 (by decide))) hb); have n12_ := am (Kd.R_below (by (with_reducible repeat first | apply ra | apply rn | apply rd); exact (rs2 HOz91 BKz93 (by decide))) hb); have n13_ := am (blk_below (g := gbz46) (o := .cells #[.slice Ao50 tz39.length co50, .slice Ao55 tz42.length co55] 30 (0, 0)) (by (with_reducible repeat (first | refine blk_drewN ?_ _ | refine blk_drew ?_ | refine blk_alloc ?_ _)); refine blk_far ?_ NBz46_z93.out _; refine blk_far ?_ NBz46_z93.out _; exact pk BKz46) hb); have n14_ := am (blk_below (g := gbz66) (o := .cells #[.slice Ao92 tz59.length co92, .slice Ao95 tz62.length co95] 30 (0, 0)) (by (with_reducible repeat (first | refine blk_drewN ?_ _ | refine blk_drew ?_ | refine blk_alloc ?_ _)); refine blk_far ?_ NBz66_z93.out _; refine blk_far ?_ NBz66_z93.out _; exact pk BKz66) hb); have n15_ := am (blk_below (g := gbz77) (o := .cells #[.slice Ao102 tz70.length co102, .slice Ao106 tz73.length co106] 30 (0, 0)) (by (with_reducible repeat (first | refine blk_drewN ?_ _ | refine blk_drew ?_ | refine blk_alloc ?_ _)); refine blk_far ?_ NBz77_z93.out _; refine blk_far ?_ NBz77_z93.out _; exact pk BKz77) hb); have n16_ := am (blk_below (g := gbz85) (o := .cells #[.slice Ao110 tz78.length co110, .slice Ao115 tz81.length co115] 30 (0, 0)) (by (with_reducible repeat (first | refine blk_drewN ?_ _ | refine blk_drew ?_ | refine blk_alloc ?_ _)); refine blk_far ?_ NBz85_z93.out _; refine blk_far ?_ NBz85_z93.out _; exact pk BKz85) hb); have n17_ := am (blk_below (g := gbz93) (o := .cells #[.slice Ao120 tz86.length co120, .slice Ao126 tz89.length co126] 30 (0, 0)) (by (with_reducible repeat (first | refine blk_drewN ?_ _ | refine blk_drew ?_ | refine blk_alloc ?_ _)); apply bp2; exact pk BKz93) hb); have n18_ := am (below_step (sC_ HB) hb); clear HO_21; clear HO_22; clear HO_z47000; clear HO_z47001; clear HOz61; clear HOz64; clear HOz69; clear HOz72; clear HOz75; clear HOz80; clear HOz83; clear HOz88; clear HOz91; clear BKz46; clear BKz66; clear BKz77; clear BKz85; clear BKz93; clear HB; have HO_21 := n0_; have HO_22 := n1_; have HO_z47000 := n2_; have HO_z47001 := n3_; have HOz61 := n4_; have HOz64 := n5_; have HOz69 := n6_; have HOz72 := n7_; have HOz75 := n8_; have HOz80 := n9_; have HOz83 := n10_; have HOz88 := n11_; have HOz91 := n12_; have BKz46 := n13_; have BKz66 := n14_; have BKz77 := n15_; have BKz85 := n16_; have BKz93 := n17_; have HB := n18_; clear n0_ n1_ n2_ n3_ n4_ n5_ n6_ n7_ n8_ n9_ n10_ n11_ n12_ n13_ n14_ n15_ n16_ n17_ n18_; have hnb162 := NBz85_z46.out; have hnc162 := NBz46_z85.out; have hnb163 := NBz85_z93.out; have hnc163 := NBz93_z85.out; obtain ⟨hcz164_0, hcz164_1⟩ := bc2 BKz85; obtain ⟨hfz164_0, hfz164_1⟩ := bf2 BKz85; have hnb165 := NBz93_z46.out; have hnc165 := NBz46_z93.out; obtain ⟨hcz166_0, hcz166_1⟩ := bc2 BKz93; obtain ⟨hfz166_0, hfz166_1⟩ := bf2 BKz93))
        go_meet
        case rel => exact ⟨_, (true), (by first | rfl | (simp; done) | (simp [*]; done)), H', ⟨by have := HJ16.out; have := HK2.out; first | omega | exact Nat.le_refl _⟩, ⟨by (with_reducible repeat first | apply ra | apply rn | apply rd); exact Kd.R_mono HO_z47000.out (fun _ hk => trivial)⟩, ⟨by (with_reducible repeat first | apply ra | apply rn | apply rd); exact Kd.R_mono HO_z47001.out (fun _ hk => trivial)⟩, ⟨by (with_reducible repeat first | apply ra | apply rn | apply rd); exact Kd.R_mono HOz80.out (fun _ hk => trivial)⟩, ⟨by (with_reducible repeat first | apply ra | apply rn | apply rd); exact Kd.R_mono HOz83.out (fun _ hk => trivial)⟩, ⟨by (with_reducible repeat first | apply ra | apply rn | apply rd); exact Kd.R_mono HOz88.out (fun _ hk => trivial)⟩, ⟨by (with_reducible repeat first | apply ra | apply rn | apply rd); exact Kd.R_mono HOz91.out (fun _ hk => trivial)⟩, (sk_ BKz46), (sk_ BKz85), (sk_ BKz93), (sB_ HB)⟩
       as_aux_lemma =>
        rw [if_pos c135] at H
        have c135b0 : ((tz86.length : Int) == (wrap64 (1 + tz2))) = true := beq_iff_eq.mpr c135
        have c135b1 : ((tz86.length : Int) != (wrap64 (1 + tz2))) = false := bne_eq_false_iff_eq.mpr c135
        clear c135
        have H' := am H
        clear H
        have hnb136 := NBz66_z46.out
        have hnc136 := NBz46_z66.out
        have hnb137 := NBz66_z77.out
        have hnc137 := NBz77_z66.out
        have hnb138 := NBz66_z85.out
        have hnc138 := NBz85_z66.out
        have hnb139 := NBz66_z93.out
        have hnc139 := NBz93_z66.out
        obtain ⟨hcz140_0, hcz140_1⟩ := bc2 BKz66
        obtain ⟨hfz140_0, hfz140_1⟩ := bf2 BKz66
        have hnb141 := NBz77_z46.out
        have hnc141 := NBz46_z77.out
        have hnb142 := NBz77_z85.out
        have hnc142 := NBz85_z77.out
        have hnb143 := NBz77_z93.out
        have hnc143 := NBz93_z77.out
        obtain ⟨hcz144_0, hcz144_1⟩ := bc2 BKz77
        obtain ⟨hfz144_0, hfz144_1⟩ := bf2 BKz77
        go_wp2_with (first | (go_at_call 15; (with_reducible refine (columbariumref14_Same.calls k2 _ _ tz59 _ _ tz62 _ _ tz70 _ _ tz73 true _ ?side1 ?side2 ?side3 ?side4 ?side5 ?side6 ?side7 ?side8 A131.out).mono ?_); (case side1 => refine (Kd.R_reads' (e := 9) (base := w.heap.size) (ok := fun k_ => ((((True ∧ some k_ ≠ (.slice Ao50 tz39.length co50 : Value).ownBlock) ∧ some k_ ≠ (.slice Ao102 tz70.length co102 : Value).ownBlock) ∧ some k_ ≠ (.slice Ao110 tz78.length co110 : Value).ownBlock) ∧ some k_ ≠ (.slice Ao120 tz86.length co120 : Value).ownBlock)) (n := tz59.length) (c := co92) ?_).2.2; exact (by (with_reducible repeat first | apply ra | apply rn | apply rd); exact (rs2 HOz61 BKz93 (by decide)))); (case side2 => exact (Kd.R_reads' HOz61.out).2.1); (case side3 => refine (Kd.R_reads' (e := 24) (base := w.heap.size) (ok := fun k_ => (((((True ∧ some k_ ≠ (.slice Ao55 tz42.length co55 : Value).ownBlock) ∧ some k_ ≠ (.slice Ao99 yz67.length co99 : Value).ownBlock) ∧ some k_ ≠ (.slice Ao106 tz73.length co106 : Value).ownBlock) ∧ some k_ ≠ (.slice Ao115 tz81.length co115 : Value).ownBlock) ∧ some k_ ≠ (.slice Ao126 tz89.length co126 : Value).ownBlock)) (n := tz62.length) (c := co95) ?_).2.2; exact (by (with_reducible repeat first | apply ra | apply rn | apply rd); exact (rs2 HOz64 BKz93 (by decide)))); (case side4 => exact (Kd.R_reads' HOz64.out).2.1); (case side5 => refine (Kd.R_reads' (e := 9) (base := w.heap.size) (ok := fun k_ => ((((True ∧ some k_ ≠ (.slice Ao50 tz39.length co50 : Value).ownBlock) ∧ some k_ ≠ (.slice Ao92 tz59.length co92 : Value).ownBlock) ∧ some k_ ≠ (.slice Ao110 tz78.length co110 : Value).ownBlock) ∧ some k_ ≠ (.slice Ao120 tz86.length co120 : Value).ownBlock)) (n := tz70.length) (c := co102) ?_).2.2; exact (by (with_reducible repeat first | apply ra | apply rn | apply rd); exact (rs2 HOz72 BKz93 (by decide)))); (case side6 => exact (Kd.R_reads' HOz72.out).2.1); (case side7 => refine (Kd.R_reads' (e := 24) (base := w.heap.size) (ok := fun k_ => (((((True ∧ some k_ ≠ (.slice Ao55 tz42.length co55 : Value).ownBlock) ∧ some k_ ≠ (.slice Ao95 tz62.length co95 : Value).ownBlock) ∧ some k_ ≠ (.slice Ao99 yz67.length co99 : Value).ownBlock) ∧ some k_ ≠ (.slice Ao115 tz81.length co115 : Value).ownBlock) ∧ some k_ ≠ (.slice Ao126 tz89.length co126 : Value).ownBlock)) (n := tz73.length) (c := co106) ?_).2.2; exact (by (with_reducible repeat first | apply ra | apply rn | apply rd); exact (rs2 HOz75 BKz93 (by decide)))); (case side8 => exact (Kd.R_reads' HOz75.out).2.1); rintro e w145 ⟨rfl, hb⟩; have n0_ := am (Kd.R_below (by (with_reducible repeat first | apply ra | apply rn | apply rd); exact (rs2 HO_21 BKz93 (by decide))) hb); have n1_ := am (Kd.R_below (by (with_reducible repeat first | apply ra | apply rn | apply rd); exact (rs2 HO_22 BKz93 (by decide))) hb); have n2_ := am (Kd.R_below (by (with_reducible repeat first | apply ra | apply rn | apply rd); exact (rs2 HO_z47000 BKz93 (by decide))) hb); have n3_ := am (Kd.R_below (by (with_reducible repeat first | apply ra | apply rn | apply rd); exact (rs2 HO_z47001 BKz93 (by decide))) hb); have n4_ := am (Kd.R_below (by (with_reducible repeat first | apply ra | apply rn | apply rd); exact (rs2 HOz61 BKz93 (by decide))) hb); have n5_ := am (Kd.R_below (by (with_reducible repeat first | apply ra | apply rn | apply rd); exact (rs2 HOz64 BKz93 (by decide))) hb); have n6_ := am (Kd.R_below (by (with_reducible repeat first | apply ra | apply rn | apply rd); exact (rs2 HOz69 BKz93 (by decide))) hb); have n7_ := am (Kd.R_below (by (with_reducible repeat first | apply ra | apply rn | apply rd); exact (rs2 HOz72 BKz93 (by decide))) hb); have n8_ := am (Kd.R_below (by (with_reducible repeat first | apply ra | apply rn | apply rd); exact (rs2 HOz75 BKz93 (by decide))) hb); have n9_ := am (Kd.R_below (by (with_reducible repeat first | apply ra | apply rn | apply rd); exact (rs2 HOz80 BKz93 (by decide))) hb); have n10_ := am (Kd.R_below (by (with_reducible repeat first | apply ra | apply rn | apply rd); exact (rs2 HOz83 BKz93 (by decide))) hb); have n11_ := am (Kd.R_below (by (with_reducible repeat first | apply ra | apply rn | apply rd); exact (rs2 HOz88 BKz93 (by decide))) hb); have n12_ := am (Kd.R_below (by (with_reducible repeat first | apply ra | apply rn | apply rd); exact (rs2 HOz91 BKz93 (by decide))) hb); have n13_ := am (blk_below (g := gbz46) (o := .cells #[.slice Ao50 tz39.length co50, .slice Ao55 tz42.length co55] 30 (0, 0)) (by (with_reducible repeat (first | refine blk_drewN ?_ _ | refine blk_drew ?_ | refine blk_alloc ?_ _)); refine blk_far ?_ NBz46_z93.out _; refine blk_far ?_ NBz46_z93.out _; exact pk BKz46) hb); have n14_ := am (blk_below (g := gbz66) (o := .cells #[.slice Ao92 tz59.length co92, .slice Ao95 tz62.length co95] 30 (0, 0)) (by (with_reducible repeat (first | refine blk_drewN ?_ _ | refine blk_drew ?_ | refine blk_alloc ?_ _)); refine blk_far ?_ NBz66_z93.out _; refine blk_far ?_ NBz66_z93.out _; exact pk BKz66) hb); have n15_ := am (blk_below (g := gbz77) (o := .cells #[.slice Ao102 tz70.length co102, .slice Ao106 tz73.length co106] 30 (0, 0)) (by (with_reducible repeat (first | refine blk_drewN ?_ _ | refine blk_drew ?_ | refine blk_alloc ?_ _)); refine blk_far ?_ NBz77_z93.out _; refine blk_far ?_ NBz77_z93.out _; exact pk BKz77) hb); have n16_ := am (blk_below (g := gbz85) (o := .cells #[.slice Ao110 tz78.length co110, .slice Ao115 tz81.length co115] 30 (0, 0)) (by (with_reducible repeat (first | refine blk_drewN ?_ _ | refine blk_drew ?_ | refine blk_alloc ?_ _)); refine blk_far ?_ NBz85_z93.out _; refine blk_far ?_ NBz85_z93.out _; exact pk BKz85) hb); have n17_ := am (blk_below (g := gbz93) (o := .cells #[.slice Ao120 tz86.length co120, .slice Ao126 tz89.length co126] 30 (0, 0)) (by (with_reducible repeat (first | refine blk_drewN ?_ _ | refine blk_drew ?_ | refine blk_alloc ?_ _)); apply bp2; exact pk BKz93) hb); have n18_ := am (below_step (sC_ HB) hb); clear HO_21; clear HO_22; clear HO_z47000; clear HO_z47001; clear HOz61; clear HOz64; clear HOz69; clear HOz72; clear HOz75; clear HOz80; clear HOz83; clear HOz88; clear HOz91; clear BKz46; clear BKz66; clear BKz77; clear BKz85; clear BKz93; clear HB; have HO_21 := n0_; have HO_22 := n1_; have HO_z47000 := n2_; have HO_z47001 := n3_; have HOz61 := n4_; have HOz64 := n5_; have HOz69 := n6_; have HOz72 := n7_; have HOz75 := n8_; have HOz80 := n9_; have HOz83 := n10_; have HOz88 := n11_; have HOz91 := n12_; have BKz46 := n13_; have BKz66 := n14_; have BKz77 := n15_; have BKz85 := n16_; have BKz93 := n17_; have HB := n18_; clear n0_ n1_ n2_ n3_ n4_ n5_ n6_ n7_ n8_ n9_ n10_ n11_ n12_ n13_ n14_ n15_ n16_ n17_ n18_; have hnb146 := NBz85_z46.out; have hnc146 := NBz46_z85.out; have hnb147 := NBz85_z93.out; have hnc147 := NBz93_z85.out; obtain ⟨hcz148_0, hcz148_1⟩ := bc2 BKz85; obtain ⟨hfz148_0, hfz148_1⟩ := bf2 BKz85; have hnb149 := NBz93_z46.out; have hnc149 := NBz46_z93.out; obtain ⟨hcz150_0, hcz150_1⟩ := bc2 BKz93; obtain ⟨hfz150_0, hfz150_1⟩ := bf2 BKz93; obtain ⟨hcz151_0, hcz151_1⟩ := bc2 BKz46; obtain ⟨hfz151_0, hfz151_1⟩ := bf2 BKz46))
        go_meet
        case rel => exact ⟨_, (((tz39.length : Int) != (wrap64 (1 + tz2)))), (by first | rfl | (simp; done) | (simp [*]; done)), H', ⟨by have := HJ16.out; have := HK2.out; first | omega | exact Nat.le_refl _⟩, ⟨by (with_reducible repeat first | apply ra | apply rn | apply rd); exact Kd.R_mono HO_z47000.out (fun _ hk => trivial)⟩, ⟨by (with_reducible repeat first | apply ra | apply rn | apply rd); exact Kd.R_mono HO_z47001.out (fun _ hk => trivial)⟩, ⟨by (with_reducible repeat first | apply ra | apply rn | apply rd); exact Kd.R_mono HOz80.out (fun _ hk => trivial)⟩, ⟨by (with_reducible repeat first | apply ra | apply rn | apply rd); exact Kd.R_mono HOz83.out (fun _ hk => trivial)⟩, ⟨by (with_reducible repeat first | apply ra | apply rn | apply rd); exact Kd.R_mono HOz88.out (fun _ hk => trivial)⟩, ⟨by (with_reducible repeat first | apply ra | apply rn | apply rd); exact Kd.R_mono HOz91.out (fun _ hk => trivial)⟩, (sk_ BKz46), (sk_ BKz85), (sk_ BKz93), (sB_ HB)⟩
 clear HC87
 try clear c1
 try clear c2
 try clear p2
 try clear c3
 try clear q3
 try clear c4
 try clear c5
 try clear p5
 try clear q5
 try clear hx5
 try clear c6
 try clear p6
 try clear c7
 try clear c9
 try clear c10
 try clear c11
 try clear c12
 try clear c13
 try clear c14
 try clear c15
 try clear c16
 try clear c17
 try clear c18
 try clear c19
 try clear c20
 try clear c25
 try clear c26
 try clear c37
 try clear q37
 try clear c45
 try clear c46
 try clear p50
 try clear q50
 try clear hx50
 try clear c51
 try clear c52
 try clear c53
 try clear c56
 try clear c56b0
 try clear c56b1
 try clear c57
 try clear c57b0
 try clear c57b1
 try clear c58
 try clear c58b0
 try clear c58b1
 try clear c59
 try clear c59b0
 try clear c59b1
 try clear c61
 try clear c62
 try clear c63
 try clear p64
 try clear c65
 try clear c66
 try clear c69
 try clear c70
 try clear c70b0
 try clear c71
 try clear c72
 try clear c72b0
 try clear c73
 try clear c73b0
 try clear c75
 try clear c79
 try clear c93
 try clear c103
 try clear c104
 try clear c111
 try clear c112
 try clear c113
 try clear c121
 try clear c122
 try clear c123
 try clear c124
 try clear c127
 try clear c127b0
 try clear c127b1
 try clear c128
 try clear c128b0
 try clear c128b1
 try clear c129
 try clear c129b0
 try clear c129b1
 try clear c130
 try clear c130b0
 try clear c130b1
 try clear c132
 try clear c133
 try clear c133b0
 try clear c133b1
 try clear c133b2
 try clear c134
 try clear c134b0
 try clear c134b1
 try clear c135
 try clear c135b0
 try clear c135b1
 try clear c136
 try clear c137
 try clear c138
 try clear c139
 try clear c141
 try clear c142
 try clear c143
 try clear c146
 try clear c147
 try clear c149
 try clear c152
 try clear c153
 try clear c154
 try clear c155
 try clear c157
 try clear c158
 try clear c159
 try clear c162
 try clear c163
 try clear c165
 try clear c167
 try clear c168
 try clear c169
 try clear c170
 try clear c172
 try clear c173
 try clear c174
 try clear c177
 try clear c178
 try clear c180
 try clear c181
 try clear c182
 try clear c183
 try clear c185
 try clear c186
 try clear c187
 try clear c190
 try clear c191
 try clear c193
 try clear c194
 try clear c195
 try clear c196
 try clear c198
 try clear c199
 try clear c200
 try clear hcz105_0
 try clear hcz105_1
 try clear hcz107_0
 try clear hcz107_1
 try clear hcz114_0
 try clear hcz114_1
 try clear hcz116_0
 try clear hcz116_1
 try clear hcz125_0
 try clear hcz125_1
 try clear hcz140_0
 try clear hcz140_1
 try clear hcz144_0
 try clear hcz144_1
 try clear hcz148_0
 try clear hcz148_1
 try clear hcz150_0
 try clear hcz150_1
 try clear hcz151_0
 try clear hcz151_1
 try clear hcz156_0
 try clear hcz156_1
 try clear hcz160_0
 try clear hcz160_1
 try clear hcz164_0
 try clear hcz164_1
 try clear hcz166_0
 try clear hcz166_1
 try clear hcz171_0
 try clear hcz171_1
 try clear hcz175_0
 try clear hcz175_1
 try clear hcz179_0
 try clear hcz179_1
 try clear hcz184_0
 try clear hcz184_1
 try clear hcz188_0
 try clear hcz188_1
 try clear hcz192_0
 try clear hcz192_1
 try clear hcz197_0
 try clear hcz197_1
 try clear hcz201_0
 try clear hcz201_1
 try clear hcz47_0
 try clear hcz47_1
 try clear hcz54_0
 try clear hcz54_1
 try clear hcz64_0
 try clear hcz64_1
 try clear hcz67_0
 try clear hcz67_1
 try clear hcz76_0
 try clear hcz76_1
 try clear hcz80_0
 try clear hcz80_1
 try clear hcz88_0
 try clear hcz88_1
 try clear hcz94_0
 try clear hcz94_1
 try clear hcz96_0
 try clear hcz96_1
 try clear hfz105_0
 try clear hfz105_1
 try clear hfz107_0
 try clear hfz107_1
 try clear hfz114_0
 try clear hfz114_1
 try clear hfz116_0
 try clear hfz116_1
 try clear hfz125_0
 try clear hfz125_1
 try clear hfz140_0
 try clear hfz140_1
 try clear hfz144_0
 try clear hfz144_1
 try clear hfz148_0
 try clear hfz148_1
 try clear hfz150_0
 try clear hfz150_1
 try clear hfz151_0
 try clear hfz151_1
 try clear hfz156_0
 try clear hfz156_1
 try clear hfz160_0
 try clear hfz160_1
 try clear hfz164_0
 try clear hfz164_1
 try clear hfz166_0
 try clear hfz166_1
 try clear hfz171_0
 try clear hfz171_1
 try clear hfz175_0
 try clear hfz175_1
 try clear hfz179_0
 try clear hfz179_1
 try clear hfz184_0
 try clear hfz184_1
 try clear hfz188_0
 try clear hfz188_1
 try clear hfz192_0
 try clear hfz192_1
 try clear hfz197_0
 try clear hfz197_1
 try clear hfz201_0
 try clear hfz201_1
 try clear hfz47_0
 try clear hfz47_1
 try clear hfz54_0
 try clear hfz54_1
 try clear hfz64_0
 try clear hfz64_1
 try clear hfz67_0
 try clear hfz67_1
 try clear hfz76_0
 try clear hfz76_1
 try clear hfz80_0
 try clear hfz80_1
 try clear hfz88_0
 try clear hfz88_1
 try clear hfz94_0
 try clear hfz94_1
 try clear hfz96_0
 try clear hfz96_1
 try clear hxz51_0
 try clear p2
 try clear pz51
 try clear p6
 try clear p64
 try clear q037
 try clear q3
 try clear q37
 try clear qz51
 (try clear HO_21); (try clear HO_22); (try clear HO_z47000); (try clear HO_z47001); (try clear HOz61); (try clear HOz64); (try clear HOz69); (try clear HOz72); (try clear HOz75); (try clear HOz80); (try clear HOz83); (try clear HOz88); (try clear HOz91); (try clear BKz46); (try clear BKz66); (try clear BKz77); (try clear BKz85); (try clear BKz93)
 obtain ⟨kq, x191_86, rfl, HA, HJ86, HO_z47000, HO_z47001, HO_z86000, HO_z86001, HO_z94000, HO_z94001, BKz46, BKz85, BKz93, HB⟩ := hcut
 cases kq with
 | zero => exact absurd HA.out (by simp [columbariumlaw14_DiskCrashes.j2])
 | succ kj86 => ?_
 have H := HA.out
 clear HA
 simp only [columbariumlaw14_DiskCrashes.j2] at H
 by_cases c203 : x191_86 = true
 ·subst c203
  have H1 : (none) = some r := by rw [if_pos rfl] at H; exact H
  clear H
  have H := H1
  clear H1
  exact absurd H (by simp)
 replace c203 := Bool.eq_false_iff.mpr c203
 subst c203
 have H1 : (columbariumlaw14_DiskCrashes.l1 kj86 tz1 (wrap64 (1 + tz2)) 0 tz39 tz42 tz78 tz81 tz86 tz89) = some r := by rw [if_neg (show ¬ (false = true) by decide)] at H; exact H
 clear H
 have H := H1
 clear H1
 have H' := am H
 clear H
 go_wp2
 go_loopg [33] kj86 (fun kq v33 w' => ∃ (x33_4 : Int), v33 = .int .i64 x33_4 ∧ Aside0 (columbariumlaw14_DiskCrashes.l1 kq tz1 (wrap64 (1 + tz2)) x33_4 tz39 tz42 tz78 tz81 tz86 tz89 = some r) ∧ Aside0 (kq ≤ kj86) ∧ Aside0 (Kd.R Kd.string 9 w' w.heap.size (fun _ => True) (.slice Ao50 tz39.length co50) tz39) ∧ Aside0 (Kd.R k24 24 w' w.heap.size (fun _ => True) (.slice Ao55 tz42.length co55) tz42) ∧ Aside0 (Kd.R Kd.string 9 w' w.heap.size (fun _ => True) (.slice Ao110 tz78.length co110) tz78) ∧ Aside0 (Kd.R k24 24 w' w.heap.size (fun _ => True) (.slice Ao115 tz81.length co115) tz81) ∧ Aside0 (Kd.R Kd.string 9 w' w.heap.size (fun _ => True) (.slice Ao120 tz86.length co120) tz86) ∧ Aside0 (Kd.R k24 24 w' w.heap.size (fun _ => True) (.slice Ao126 tz89.length co126) tz89) ∧ Aside0 (w'.heap[gbz46]? = some (.cells #[(.slice Ao50 tz39.length co50), (.slice Ao55 tz42.length co55)] 30 (0, 0))) ∧ Aside0 (w'.heap[gbz85]? = some (.cells #[(.slice Ao110 tz78.length co110), (.slice Ao115 tz81.length co115)] 30 (0, 0))) ∧ Aside0 (w'.heap[gbz93]? = some (.cells #[(.slice Ao120 tz86.length co120), (.slice Ao126 tz89.length co126)] 30 (0, 0))) ∧ Aside0 (Below w.heap.size w w'))
 case atStart => exact ⟨(0), (by first | rfl | (simp; done) | (simp [*]; done)), H', ⟨Nat.le_refl _⟩, (sr_ HO_z47000), (sr_ HO_z47001), (sr_ HO_z86000), (sr_ HO_z86001), (sr_ HO_z94000), (sr_ HO_z94001), (sk_ BKz46), (sk_ BKz85), (sk_ BKz93), (sB_ HB)⟩
 clear H'
 try clear c1
 try clear c2
 try clear p2
 try clear c3
 try clear q3
 try clear c4
 try clear c5
 try clear p5
 try clear q5
 try clear hx5
 try clear c6
 try clear p6
 try clear c7
 try clear c9
 try clear c10
 try clear c11
 try clear c12
 try clear c13
 try clear c14
 try clear c15
 try clear c16
 try clear c17
 try clear c18
 try clear c19
 try clear c20
 try clear c25
 try clear c26
 try clear c37
 try clear q37
 try clear c45
 try clear c46
 try clear p50
 try clear q50
 try clear hx50
 try clear c51
 try clear c52
 try clear c53
 try clear c56
 try clear c56b0
 try clear c56b1
 try clear c57
 try clear c57b0
 try clear c57b1
 try clear c58
 try clear c58b0
 try clear c58b1
 try clear c59
 try clear c59b0
 try clear c59b1
 try clear c61
 try clear c62
 try clear c63
 try clear p64
 try clear c65
 try clear c66
 try clear c69
 try clear c70
 try clear c70b0
 try clear c71
 try clear c72
 try clear c72b0
 try clear c73
 try clear c73b0
 try clear c75
 try clear c79
 try clear c93
 try clear c103
 try clear c104
 try clear c111
 try clear c112
 try clear c113
 try clear c121
 try clear c122
 try clear c123
 try clear c124
 try clear c127
 try clear c127b0
 try clear c127b1
 try clear c128
 try clear c128b0
 try clear c128b1
 try clear c129
 try clear c129b0
 try clear c129b1
 try clear c130
 try clear c130b0
 try clear c130b1
 try clear c132
 try clear c133
 try clear c133b0
 try clear c133b1
 try clear c133b2
 try clear c134
 try clear c134b0
 try clear c134b1
 try clear c135
 try clear c135b0
 try clear c135b1
 try clear c136
 try clear c137
 try clear c138
 try clear c139
 try clear c141
 try clear c142
 try clear c143
 try clear c146
 try clear c147
 try clear c149
 try clear c152
 try clear c153
 try clear c154
 try clear c155
 try clear c157
 try clear c158
 try clear c159
 try clear c162
 try clear c163
 try clear c165
 try clear c167
 try clear c168
 try clear c169
 try clear c170
 try clear c172
 try clear c173
 try clear c174
 try clear c177
 try clear c178
 try clear c180
 try clear c181
 try clear c182
 try clear c183
 try clear c185
 try clear c186
 try clear c187
 try clear c190
 try clear c191
 try clear c193
 try clear c194
 try clear c195
 try clear c196
 try clear c198
 try clear c199
 try clear c200
 try clear c203
 try clear hcz105_0
 try clear hcz105_1
 try clear hcz107_0
 try clear hcz107_1
 try clear hcz114_0
 try clear hcz114_1
 try clear hcz116_0
 try clear hcz116_1
 try clear hcz125_0
 try clear hcz125_1
 try clear hcz140_0
 try clear hcz140_1
 try clear hcz144_0
 try clear hcz144_1
 try clear hcz148_0
 try clear hcz148_1
 try clear hcz150_0
 try clear hcz150_1
 try clear hcz151_0
 try clear hcz151_1
 try clear hcz156_0
 try clear hcz156_1
 try clear hcz160_0
 try clear hcz160_1
 try clear hcz164_0
 try clear hcz164_1
 try clear hcz166_0
 try clear hcz166_1
 try clear hcz171_0
 try clear hcz171_1
 try clear hcz175_0
 try clear hcz175_1
 try clear hcz179_0
 try clear hcz179_1
 try clear hcz184_0
 try clear hcz184_1
 try clear hcz188_0
 try clear hcz188_1
 try clear hcz192_0
 try clear hcz192_1
 try clear hcz197_0
 try clear hcz197_1
 try clear hcz201_0
 try clear hcz201_1
 try clear hcz47_0
 try clear hcz47_1
 try clear hcz54_0
 try clear hcz54_1
 try clear hcz64_0
 try clear hcz64_1
 try clear hcz67_0
 try clear hcz67_1
 try clear hcz76_0
 try clear hcz76_1
 try clear hcz80_0
 try clear hcz80_1
 try clear hcz88_0
 try clear hcz88_1
 try clear hcz94_0
 try clear hcz94_1
 try clear hcz96_0
 try clear hcz96_1
 try clear hfz105_0
 try clear hfz105_1
 try clear hfz107_0
 try clear hfz107_1
 try clear hfz114_0
 try clear hfz114_1
 try clear hfz116_0
 try clear hfz116_1
 try clear hfz125_0
 try clear hfz125_1
 try clear hfz140_0
 try clear hfz140_1
 try clear hfz144_0
 try clear hfz144_1
 try clear hfz148_0
 try clear hfz148_1
 try clear hfz150_0
 try clear hfz150_1
 try clear hfz151_0
 try clear hfz151_1
 try clear hfz156_0
 try clear hfz156_1
 try clear hfz160_0
 try clear hfz160_1
 try clear hfz164_0
 try clear hfz164_1
 try clear hfz166_0
 try clear hfz166_1
 try clear hfz171_0
 try clear hfz171_1
 try clear hfz175_0
 try clear hfz175_1
 try clear hfz179_0
 try clear hfz179_1
 try clear hfz184_0
 try clear hfz184_1
 try clear hfz188_0
 try clear hfz188_1
 try clear hfz192_0
 try clear hfz192_1
 try clear hfz197_0
 try clear hfz197_1
 try clear hfz201_0
 try clear hfz201_1
 try clear hfz47_0
 try clear hfz47_1
 try clear hfz54_0
 try clear hfz54_1
 try clear hfz64_0
 try clear hfz64_1
 try clear hfz67_0
 try clear hfz67_1
 try clear hfz76_0
 try clear hfz76_1
 try clear hfz80_0
 try clear hfz80_1
 try clear hfz88_0
 try clear hfz88_1
 try clear hfz94_0
 try clear hfz94_1
 try clear hfz96_0
 try clear hfz96_1
 try clear hxz51_0
 try clear p2
 try clear p5
 try clear p50
 try clear pz51
 try clear p6
 try clear p64
 try clear q037
 try clear q3
 try clear q37
 try clear q5
 try clear q50
 try clear qz51
 (try clear HO_z47000); (try clear HO_z47001); (try clear HO_z86000); (try clear HO_z86001); (try clear HO_z94000); (try clear HO_z94001); (try clear BKz46); (try clear BKz85); (try clear BKz93)
 obtain ⟨x33_4, rfl, HA, HK4, HO_z47000, HO_z47001, HO_z86000, HO_z86001, HO_z94000, HO_z94001, BKz46, BKz85, BKz93, HB⟩ := hrel
 cases gk with
 | zero => exact absurd HA.out (by simp [columbariumlaw14_DiskCrashes.l1])
 | succ k4 => ?_
 have H := HA.out
 clear HA
 simp only [columbariumlaw14_DiskCrashes.l1] at H
 by_cases c204 : x33_4 < (wrap64 (1 + tz2))
 rotate_left
 ·rw [if_neg c204] at H
  have c204b0 : decide (x33_4 < (wrap64 (1 + tz2))) = false := decide_eq_false c204
  clear c204
  obtain rfl := Option.some.inj H
  go_wp2
  go_ret
  exact ⟨by first | rfl | (simp <;> rfl) | (simp [*] <;> rfl), by repeat first | (with_reducible first | exact HB.out | apply ba | apply bn | apply bd | refine bs (by assumption) ?_) | exact HB.out⟩
 as_aux_lemma =>
  rw [if_pos c204] at H
  have c204b0 : decide (x33_4 < (wrap64 (1 + tz2))) = true := decide_eq_true c204
  clear c204
  have HC205 := am H
  clear H
  go_upto_region 30 with (fail)
  go_cut [225] (fun v225 wc => ∃ (kq : Nat) (x225_204 : Bool), v225 = .bool x225_204 ∧ Aside0 (columbariumlaw14_DiskCrashes.j4 kq tz1 (wrap64 (1 + tz2)) x33_4 x225_204 tz39 tz42 tz78 tz81 tz86 tz89 = some r) ∧ Aside0 (kq ≤ k4) ∧ Aside0 (Kd.R Kd.string 9 wc w.heap.size (fun _ => True) (.slice Ao50 tz39.length co50) tz39) ∧ Aside0 (Kd.R k24 24 wc w.heap.size (fun _ => True) (.slice Ao55 tz42.length co55) tz42) ∧ Aside0 (Kd.R Kd.string 9 wc w.heap.size (fun _ => True) (.slice Ao110 tz78.length co110) tz78) ∧ Aside0 (Kd.R k24 24 wc w.heap.size (fun _ => True) (.slice Ao115 tz81.length co115) tz81) ∧ Aside0 (Kd.R Kd.string 9 wc w.heap.size (fun _ => True) (.slice Ao120 tz86.length co120) tz86) ∧ Aside0 (Kd.R k24 24 wc w.heap.size (fun _ => True) (.slice Ao126 tz89.length co126) tz89) ∧ Aside0 (wc.heap[gbz46]? = some (.cells #[(.slice Ao50 tz39.length co50), (.slice Ao55 tz42.length co55)] 30 (0, 0))) ∧ Aside0 (wc.heap[gbz85]? = some (.cells #[(.slice Ao110 tz78.length co110), (.slice Ao115 tz81.length co115)] 30 (0, 0))) ∧ Aside0 (wc.heap[gbz93]? = some (.cells #[(.slice Ao120 tz86.length co120), (.slice Ao126 tz89.length co126)] 30 (0, 0))) ∧ Aside0 (Below w.heap.size w wc))
  case first =>
   have H := HC205.out
   clear HC205
   by_cases c206 : 0 ≤ x33_4
   rotate_left
   ·rw [if_neg c206] at H
    exact absurd H (by simp)
   rw [if_pos c206] at H
   have c206b0 : decide (0 ≤ x33_4) = true := decide_eq_true c206
   clear c206
   (first | rw [c206b0] | rw [c206b1] | (simp only [i64_w, i32_w]; rw [c206b0]) | skip)
   by_cases c207 : x33_4 < (tz78.length : Int)
   rotate_left
   ·rw [if_neg c207] at H
    exact absurd H (by simp)
   rw [if_pos c207] at H
   have c207b0 : decide (x33_4 < (tz78.length : Int)) = true := decide_eq_true c207
   clear c207
   by_cases c208 : x33_4 < (tz39.length : Int)
   rotate_left
   ·rw [if_neg c208] at H
    exact absurd H (by simp)
   rw [if_pos c208] at H
   have c208b0 : decide (x33_4 < (tz39.length : Int)) = true := decide_eq_true c208
   clear c208
   by_cases c209 : (rdOf ByteArray.empty tz78 x33_4).toList = (rdOf ByteArray.empty tz39 x33_4).toList
   rotate_left
   ·rw [if_neg c209] at H
    have c209b0 : ((rdOf ByteArray.empty tz78 x33_4).toList == (rdOf ByteArray.empty tz39 x33_4).toList) = false := beq_eq_false_iff_ne.mpr c209
    have c209b1 : ((rdOf ByteArray.empty tz78 x33_4).toList != (rdOf ByteArray.empty tz39 x33_4).toList) = true := bne_iff_ne.mpr c209
    have H' := am H
    clear H
    try go_wp2
    have n0_ := am (Kd.R_drew HO_z47000.out)
    have n1_ := am (Kd.R_drew HO_z47001.out)
    have n2_ := am (Kd.R_drew HO_z86000.out)
    have n3_ := am (Kd.R_drew HO_z86001.out)
    have n4_ := am (Kd.R_drew HO_z94000.out)
    have n5_ := am (Kd.R_drew HO_z94001.out)
    have n6_ := am (blk_drew BKz46.out)
    have n7_ := am (blk_drew BKz85.out)
    have n8_ := am (blk_drew BKz93.out)
    have n9_ := am (below_drew1 HB.out)
    clear HO_z47000 HO_z47001 HO_z86000 HO_z86001 HO_z94000 HO_z94001 BKz46 BKz85 BKz93 HB; have HO_z47000 := n0_; have HO_z47001 := n1_; have HO_z86000 := n2_; have HO_z86001 := n3_; have HO_z94000 := n4_; have HO_z94001 := n5_; have BKz46 := n6_; have BKz85 := n7_; have BKz93 := n8_; have HB := n9_; clear n0_ n1_ n2_ n3_ n4_ n5_ n6_ n7_ n8_ n9_
    have pz95 : 0 ≤ (x33_4 : Int) := of_decide_eq_true (by first | (with_reducible assumption) | assumption)
    have qz95 : x33_4 < (tz78.length : Int) := of_decide_eq_true (by first | (with_reducible assumption) | assumption)
    obtain ⟨adz95, ez95, hxz95_0⟩ := Kd.at_string (Kd.R_reads' HO_z86000.out).2.2 x33_4 pz95 qz95
    cases ez95
    replace pz95 := eq_true pz95
    replace qz95 := eq_true qz95
    have pz96 : 0 ≤ (x33_4 : Int) := of_decide_eq_true (by first | (with_reducible assumption) | assumption)
    have qz96 : x33_4 < (tz39.length : Int) := of_decide_eq_true (by first | (with_reducible assumption) | assumption)
    obtain ⟨adz96, ez96, hxz96_0⟩ := Kd.at_string (Kd.R_reads' HO_z47000.out).2.2 x33_4 pz96 qz96
    cases ez96
    replace pz96 := eq_true pz96
    replace qz96 := eq_true qz96
    refine start_ (n := 29) (S := fun w' => w'.cell? ⟨gbz85, 0, none⟩ = some (.slice (some adz95) tz78.length co110) ∧ w'.cell? ⟨gbz85, 1, none⟩ = some (.slice Ao115 tz81.length co115) ∧ w'.cell? ⟨gbz46, 0, none⟩ = some (.slice (some adz96) tz39.length co50) ∧ w'.cell? ⟨gbz46, 1, none⟩ = some (.slice Ao55 tz42.length co55) ∧ w'.cell? (adz95.add (x33_4).toNat) = some (.string (rdOf ByteArray.empty tz78 x33_4)) ∧ w'.cell? (adz96.add (x33_4).toNat) = some (.string (rdOf ByteArray.empty tz39 x33_4))) (ds := []) #[false, false, false, false, false, false, false, false, false, false, false, false, false, false, false, false, false, false, false, false, false, false, false, false, false, false, false, false, false] (by kernel_rfl) rfl rfl ⟨(blk_cell BKz85.out 0).trans rfl, (blk_cell BKz85.out 1).trans rfl, (blk_cell BKz46.out 0).trans rfl, (blk_cell BKz46.out 1).trans rfl, hxz95_0, hxz96_0⟩ (fun hHeld => ?_); refine with_tabW columbariumlaw14_DiskCrashes.tab30 columbariumlaw14_DiskCrashes.bits30 (fun HT_ HW_ => ?_)
    generalize wr.drew = w214 at HO_z47000 HO_z47001 HO_z86000 HO_z86001 HO_z94000 HO_z94001 BKz46 BKz85 BKz93 HB hxz95_0 hxz96_0 hHeld ⊢
    refine pu_ 0 (some 197) HT_ rfl rfl (.inl ⟨by rfl, by intro w'; go_simp; with_reducible rfl⟩) (by simp only [Act.put, sa_, s0_, s1_, i64_w, i32_w]; rfl) ?_
    refine pu_ 2 (some 199) HT_ rfl rfl (.inl ⟨by rfl, by intro w'; go_simp; with_reducible rfl⟩) (by simp only [Act.put, sa_, s0_, s1_, i64_w, i32_w]; rfl) ?_
    refine pu_ 5 (some 202) HT_ rfl rfl (.inl ⟨by rfl, by intro w'; go_simp; with_reducible rfl⟩) (by simp only [Act.put, sa_, s0_, s1_, i64_w, i32_w]; rfl) ?_
    refine pu_ 7 (some 204) HT_ rfl rfl (.inl ⟨by rfl, by intro w'; go_simp; with_reducible rfl⟩) (by simp only [Act.put, sa_, s0_, s1_, i64_w, i32_w]; rfl) ?_
    refine tk_ 1 (some 198) HT_ HW_ rfl rfl (.inl ⟨by rfl, by rintro w' ⟨s0, s1, s2, s3, s4, s5⟩; go_simp; with_reducible rfl⟩) hHeld (by simp only [Act.put, sa_, s0_, s1_, i64_w, i32_w]; rfl) ?_
    refine pu_ 3 (some 200) HT_ rfl rfl (.inl ⟨by rfl, by intro w'; go_simp; with_reducible rfl⟩) (by simp only [Act.put, sa_, s0_, s1_, i64_w, i32_w]; rfl) ?_
    refine tk_ 4 (some 201) HT_ HW_ rfl rfl (.inl ⟨by rfl, by rintro w' ⟨s0, s1, s2, s3, s4, s5⟩; go_simp; with_reducible rfl⟩) hHeld (by simp only [Act.put, sa_, s0_, s1_, i64_w, i32_w]; rfl) ?_
    refine tk_ 6 (some 203) HT_ HW_ rfl rfl (.inl ⟨by rfl, by rintro w' ⟨s0, s1, s2, s3, s4, s5⟩; go_simp; with_reducible rfl⟩) hHeld (by simp only [Act.put, sa_, s0_, s1_, i64_w, i32_w]; rfl) ?_
    refine pu_ 8 (some 205) HT_ rfl rfl (.inl ⟨by rfl, by intro w'; go_simp; with_reducible rfl⟩) (by simp only [Act.put, sa_, s0_, s1_, i64_w, i32_w]; rfl) ?_
    refine tk_ 9 (some 206) HT_ HW_ rfl rfl (.inl ⟨by rfl, by rintro w' ⟨s0, s1, s2, s3, s4, s5⟩; go_simp; with_reducible rfl⟩) hHeld (by simp only [Act.put, sa_, s0_, s1_, i64_w, i32_w]; rfl) ?_
    refine pu_ 10 (some 207) HT_ rfl rfl (.inl ⟨by rfl, by intro w'; go_simp; with_reducible rfl⟩) (by simp only [Act.put, sa_, s0_, s1_, i64_w, i32_w]; rfl) ?_
    refine pu_ 11 (some 208) HT_ rfl rfl (.inl ⟨by rfl, by intro w'; go_simp; with_reducible rfl⟩) (by simp only [Act.put, sa_, s0_, s1_, i64_w, i32_w]; rfl) ?_
    refine pu_ (v := undef) 12 (some 209) HT_ rfl rfl (.inr ⟨by rfl, rfl⟩) (by simp only [Act.put, sa_, s0_, s1_, i64_w, i32_w]; rfl) ?_
    refine pu_ (v := undef) 13 (some 210) HT_ rfl rfl (.inr ⟨by rfl, rfl⟩) (by simp only [Act.put, sa_, s0_, s1_, i64_w, i32_w]; rfl) ?_
    refine pu_ (v := undef) 14 (some 211) HT_ rfl rfl (.inr ⟨by rfl, rfl⟩) (by simp only [Act.put, sa_, s0_, s1_, i64_w, i32_w]; rfl) ?_
    refine pu_ (v := undef) 15 (some 212) HT_ rfl rfl (.inr ⟨by rfl, rfl⟩) (by simp only [Act.put, sa_, s0_, s1_, i64_w, i32_w]; rfl) ?_
    refine pu_ (v := undef) 16 (some 213) HT_ rfl rfl (.inr ⟨by rfl, rfl⟩) (by simp only [Act.put, sa_, s0_, s1_, i64_w, i32_w]; rfl) ?_
    refine pu_ (v := undef) 17 (some 214) HT_ rfl rfl (.inr ⟨by rfl, rfl⟩) (by simp only [Act.put, sa_, s0_, s1_, i64_w, i32_w]; rfl) ?_
    refine pu_ (v := undef) 18 (some 215) HT_ rfl rfl (.inr ⟨by rfl, rfl⟩) (by simp only [Act.put, sa_, s0_, s1_, i64_w, i32_w]; rfl) ?_
    refine pu_ 19 (some 216) HT_ rfl rfl (.inl ⟨by rfl, by intro w'; go_simp; with_reducible rfl⟩) (by simp only [Act.put, sa_, s0_, s1_, i64_w, i32_w]; rfl) ?_
    refine pu_ 20 (some 217) HT_ rfl rfl (.inl ⟨by rfl, by intro w'; go_simp; with_reducible rfl⟩) (by simp only [Act.put, sa_, s0_, s1_, i64_w, i32_w]; rfl) ?_
    refine pu_ (v := undef) 21 (some 218) HT_ rfl rfl (.inr ⟨by rfl, rfl⟩) (by simp only [Act.put, sa_, s0_, s1_, i64_w, i32_w]; rfl) ?_
    refine pu_ (v := undef) 22 (some 219) HT_ rfl rfl (.inr ⟨by rfl, rfl⟩) (by simp only [Act.put, sa_, s0_, s1_, i64_w, i32_w]; rfl) ?_
    refine pu_ (v := undef) 23 (some 220) HT_ rfl rfl (.inr ⟨by rfl, rfl⟩) (by simp only [Act.put, sa_, s0_, s1_, i64_w, i32_w]; rfl) ?_
    refine pu_ (v := undef) 24 (some 221) HT_ rfl rfl (.inr ⟨by rfl, rfl⟩) (by simp only [Act.put, sa_, s0_, s1_, i64_w, i32_w]; rfl) ?_
    refine pu_ (v := undef) 25 (some 222) HT_ rfl rfl (.inr ⟨by rfl, rfl⟩) (by simp only [Act.put, sa_, s0_, s1_, i64_w, i32_w]; rfl) ?_
    refine pu_ (v := undef) 26 (some 223) HT_ rfl rfl (.inr ⟨by rfl, rfl⟩) (by simp only [Act.put, sa_, s0_, s1_, i64_w, i32_w]; rfl) ?_
    refine pu_ (v := undef) 27 (some 224) HT_ rfl rfl (.inr ⟨by rfl, rfl⟩) (by simp only [Act.put, sa_, s0_, s1_, i64_w, i32_w]; rfl) ?_
    refine pu_ 28 (some 225) HT_ rfl rfl (.inl ⟨by rfl, by intro w'; go_simp; with_reducible rfl⟩) (by simp only [Act.put, sa_, s0_, s1_, i64_w, i32_w]; rfl) ?_
    refine done_ (done_of HT_.out (by kernel_rfl)) ?_
    try go_wp2
    go_meet
    case rel => exact ⟨_, (true), (by first | rfl | (simp; done) | (simp [*]; done)), H', ⟨by have := HJ16.out; have := HK2.out; have := HJ86.out; have := HK4.out; first | omega | exact Nat.le_refl _⟩, (sr_ HO_z47000), (sr_ HO_z47001), (sr_ HO_z86000), (sr_ HO_z86001), (sr_ HO_z94000), (sr_ HO_z94001), (sk_ BKz46), (sk_ BKz85), (sk_ BKz93), (sB_ HB)⟩
   rw [if_pos c209] at H
   have c209b0 : ((rdOf ByteArray.empty tz78 x33_4).toList == (rdOf ByteArray.empty tz39 x33_4).toList) = true := beq_iff_eq.mpr c209
   have c209b1 : ((rdOf ByteArray.empty tz78 x33_4).toList != (rdOf ByteArray.empty tz39 x33_4).toList) = false := bne_eq_false_iff_eq.mpr c209
   clear c209
   by_cases c210 : x33_4 < (tz86.length : Int)
   rotate_left
   ·rw [if_neg c210] at H
    exact absurd H (by simp)
   rw [if_pos c210] at H
   have c210b0 : decide (x33_4 < (tz86.length : Int)) = true := decide_eq_true c210
   clear c210
   by_cases c211 : ((rdOf ByteArray.empty tz86 x33_4).size : Int) = 64
   rotate_left
   ·rw [if_neg c211] at H
    have c211b0 : (((rdOf ByteArray.empty tz86 x33_4).size : Int) == 64) = false := beq_eq_false_iff_ne.mpr c211
    have c211b1 : (((rdOf ByteArray.empty tz86 x33_4).size : Int) != 64) = true := bne_iff_ne.mpr c211
    have H' := am H
    clear H
    try go_wp2
    have n0_ := am (Kd.R_drew HO_z47000.out)
    have n1_ := am (Kd.R_drew HO_z47001.out)
    have n2_ := am (Kd.R_drew HO_z86000.out)
    have n3_ := am (Kd.R_drew HO_z86001.out)
    have n4_ := am (Kd.R_drew HO_z94000.out)
    have n5_ := am (Kd.R_drew HO_z94001.out)
    have n6_ := am (blk_drew BKz46.out)
    have n7_ := am (blk_drew BKz85.out)
    have n8_ := am (blk_drew BKz93.out)
    have n9_ := am (below_drew1 HB.out)
    clear HO_z47000 HO_z47001 HO_z86000 HO_z86001 HO_z94000 HO_z94001 BKz46 BKz85 BKz93 HB; have HO_z47000 := n0_; have HO_z47001 := n1_; have HO_z86000 := n2_; have HO_z86001 := n3_; have HO_z94000 := n4_; have HO_z94001 := n5_; have BKz46 := n6_; have BKz85 := n7_; have BKz93 := n8_; have HB := n9_; clear n0_ n1_ n2_ n3_ n4_ n5_ n6_ n7_ n8_ n9_
    have pz95 : 0 ≤ (x33_4 : Int) := of_decide_eq_true (by first | (with_reducible assumption) | assumption)
    have qz95 : x33_4 < (tz78.length : Int) := of_decide_eq_true (by first | (with_reducible assumption) | assumption)
    obtain ⟨adz95, ez95, hxz95_0⟩ := Kd.at_string (Kd.R_reads' HO_z86000.out).2.2 x33_4 pz95 qz95
    cases ez95
    replace pz95 := eq_true pz95
    replace qz95 := eq_true qz95
    have pz96 : 0 ≤ (x33_4 : Int) := of_decide_eq_true (by first | (with_reducible assumption) | assumption)
    have qz96 : x33_4 < (tz39.length : Int) := of_decide_eq_true (by first | (with_reducible assumption) | assumption)
    obtain ⟨adz96, ez96, hxz96_0⟩ := Kd.at_string (Kd.R_reads' HO_z47000.out).2.2 x33_4 pz96 qz96
    cases ez96
    replace pz96 := eq_true pz96
    replace qz96 := eq_true qz96
    have pz97 : 0 ≤ (x33_4 : Int) := of_decide_eq_true (by first | (with_reducible assumption) | assumption)
    have qz97 : x33_4 < (tz86.length : Int) := of_decide_eq_true (by first | (with_reducible assumption) | assumption)
    obtain ⟨adz97, ez97, hxz97_0⟩ := Kd.at_string (Kd.R_reads' HO_z94000.out).2.2 x33_4 pz97 qz97
    cases ez97
    replace pz97 := eq_true pz97
    replace qz97 := eq_true qz97
    refine start_ (n := 29) (S := fun w' => w'.cell? ⟨gbz85, 0, none⟩ = some (.slice (some adz95) tz78.length co110) ∧ w'.cell? ⟨gbz85, 1, none⟩ = some (.slice Ao115 tz81.length co115) ∧ w'.cell? ⟨gbz46, 0, none⟩ = some (.slice (some adz96) tz39.length co50) ∧ w'.cell? ⟨gbz46, 1, none⟩ = some (.slice Ao55 tz42.length co55) ∧ w'.cell? ⟨gbz93, 0, none⟩ = some (.slice (some adz97) tz86.length co120) ∧ w'.cell? ⟨gbz93, 1, none⟩ = some (.slice Ao126 tz89.length co126) ∧ w'.cell? (adz95.add (x33_4).toNat) = some (.string (rdOf ByteArray.empty tz78 x33_4)) ∧ w'.cell? (adz96.add (x33_4).toNat) = some (.string (rdOf ByteArray.empty tz39 x33_4)) ∧ w'.cell? (adz97.add (x33_4).toNat) = some (.string (rdOf ByteArray.empty tz86 x33_4))) (ds := []) #[false, false, false, false, false, false, false, false, false, false, false, false, false, false, false, false, false, false, false, false, false, false, false, false, false, false, false, false, false] (by kernel_rfl) rfl rfl ⟨(blk_cell BKz85.out 0).trans rfl, (blk_cell BKz85.out 1).trans rfl, (blk_cell BKz46.out 0).trans rfl, (blk_cell BKz46.out 1).trans rfl, (blk_cell BKz93.out 0).trans rfl, (blk_cell BKz93.out 1).trans rfl, hxz95_0, hxz96_0, hxz97_0⟩ (fun hHeld => ?_); refine with_tabW columbariumlaw14_DiskCrashes.tab30 columbariumlaw14_DiskCrashes.bits30 (fun HT_ HW_ => ?_)
    generalize wr.drew = w213 at HO_z47000 HO_z47001 HO_z86000 HO_z86001 HO_z94000 HO_z94001 BKz46 BKz85 BKz93 HB hxz95_0 hxz96_0 hxz97_0 hHeld ⊢
    refine pu_ 0 (some 197) HT_ rfl rfl (.inl ⟨by rfl, by intro w'; go_simp; with_reducible rfl⟩) (by simp only [Act.put, sa_, s0_, s1_, i64_w, i32_w]; rfl) ?_
    refine pu_ 2 (some 199) HT_ rfl rfl (.inl ⟨by rfl, by intro w'; go_simp; with_reducible rfl⟩) (by simp only [Act.put, sa_, s0_, s1_, i64_w, i32_w]; rfl) ?_
    refine pu_ 5 (some 202) HT_ rfl rfl (.inl ⟨by rfl, by intro w'; go_simp; with_reducible rfl⟩) (by simp only [Act.put, sa_, s0_, s1_, i64_w, i32_w]; rfl) ?_
    refine pu_ 7 (some 204) HT_ rfl rfl (.inl ⟨by rfl, by intro w'; go_simp; with_reducible rfl⟩) (by simp only [Act.put, sa_, s0_, s1_, i64_w, i32_w]; rfl) ?_
    refine tk_ 1 (some 198) HT_ HW_ rfl rfl (.inl ⟨by rfl, by rintro w' ⟨s0, s1, s2, s3, s4, s5, s6, s7, s8⟩; go_simp; with_reducible rfl⟩) hHeld (by simp only [Act.put, sa_, s0_, s1_, i64_w, i32_w]; rfl) ?_
    refine pu_ 3 (some 200) HT_ rfl rfl (.inl ⟨by rfl, by intro w'; go_simp; with_reducible rfl⟩) (by simp only [Act.put, sa_, s0_, s1_, i64_w, i32_w]; rfl) ?_
    refine tk_ 4 (some 201) HT_ HW_ rfl rfl (.inl ⟨by rfl, by rintro w' ⟨s0, s1, s2, s3, s4, s5, s6, s7, s8⟩; go_simp; with_reducible rfl⟩) hHeld (by simp only [Act.put, sa_, s0_, s1_, i64_w, i32_w]; rfl) ?_
    refine tk_ 6 (some 203) HT_ HW_ rfl rfl (.inl ⟨by rfl, by rintro w' ⟨s0, s1, s2, s3, s4, s5, s6, s7, s8⟩; go_simp; with_reducible rfl⟩) hHeld (by simp only [Act.put, sa_, s0_, s1_, i64_w, i32_w]; rfl) ?_
    refine pu_ 8 (some 205) HT_ rfl rfl (.inl ⟨by rfl, by intro w'; go_simp; with_reducible rfl⟩) (by simp only [Act.put, sa_, s0_, s1_, i64_w, i32_w]; rfl) ?_
    refine tk_ 9 (some 206) HT_ HW_ rfl rfl (.inl ⟨by rfl, by rintro w' ⟨s0, s1, s2, s3, s4, s5, s6, s7, s8⟩; go_simp; with_reducible rfl⟩) hHeld (by simp only [Act.put, sa_, s0_, s1_, i64_w, i32_w]; rfl) ?_
    refine pu_ 10 (some 207) HT_ rfl rfl (.inl ⟨by rfl, by intro w'; go_simp; with_reducible rfl⟩) (by simp only [Act.put, sa_, s0_, s1_, i64_w, i32_w]; rfl) ?_
    refine pu_ 11 (some 208) HT_ rfl rfl (.inl ⟨by rfl, by intro w'; go_simp; with_reducible rfl⟩) (by simp only [Act.put, sa_, s0_, s1_, i64_w, i32_w]; rfl) ?_
    refine pu_ 12 (some 209) HT_ rfl rfl (.inl ⟨by rfl, by intro w'; go_simp; with_reducible rfl⟩) (by simp only [Act.put, sa_, s0_, s1_, i64_w, i32_w]; rfl) ?_
    refine pu_ 14 (some 211) HT_ rfl rfl (.inl ⟨by rfl, by intro w'; go_simp; with_reducible rfl⟩) (by simp only [Act.put, sa_, s0_, s1_, i64_w, i32_w]; rfl) ?_
    refine tk_ 13 (some 210) HT_ HW_ rfl rfl (.inl ⟨by rfl, by rintro w' ⟨s0, s1, s2, s3, s4, s5, s6, s7, s8⟩; go_simp; with_reducible rfl⟩) hHeld (by simp only [Act.put, sa_, s0_, s1_, i64_w, i32_w]; rfl) ?_
    refine pu_ 15 (some 212) HT_ rfl rfl (.inl ⟨by rfl, by intro w'; go_simp; with_reducible rfl⟩) (by simp only [Act.put, sa_, s0_, s1_, i64_w, i32_w]; rfl) ?_
    refine tk_ 16 (some 213) HT_ HW_ rfl rfl (.inl ⟨by rfl, by rintro w' ⟨s0, s1, s2, s3, s4, s5, s6, s7, s8⟩; go_simp; with_reducible rfl⟩) hHeld (by simp only [Act.put, sa_, s0_, s1_, i64_w, i32_w]; rfl) ?_
    refine pu_ 17 (some 214) HT_ rfl rfl (.inl ⟨by rfl, by intro w'; go_simp; with_reducible rfl⟩) (by simp only [Act.put, sa_, s0_, s1_, i64_w, i32_w]; rfl) ?_
    refine pu_ 18 (some 215) HT_ rfl rfl (.inl ⟨by rfl, by intro w'; go_simp; with_reducible rfl⟩) (by simp only [Act.put, sa_, s0_, s1_, i64_w, i32_w]; rfl) ?_
    refine pu_ 19 (some 216) HT_ rfl rfl (.inl ⟨by rfl, by intro w'; go_simp; with_reducible rfl⟩) (by simp only [Act.put, sa_, s0_, s1_, i64_w, i32_w]; rfl) ?_
    refine pu_ 20 (some 217) HT_ rfl rfl (.inl ⟨by rfl, by intro w'; go_simp; with_reducible rfl⟩) (by simp only [Act.put, sa_, s0_, s1_, i64_w, i32_w]; rfl) ?_
    refine pu_ (v := undef) 21 (some 218) HT_ rfl rfl (.inr ⟨by rfl, rfl⟩) (by simp only [Act.put, sa_, s0_, s1_, i64_w, i32_w]; rfl) ?_
    refine pu_ (v := undef) 22 (some 219) HT_ rfl rfl (.inr ⟨by rfl, rfl⟩) (by simp only [Act.put, sa_, s0_, s1_, i64_w, i32_w]; rfl) ?_
    refine pu_ (v := undef) 23 (some 220) HT_ rfl rfl (.inr ⟨by rfl, rfl⟩) (by simp only [Act.put, sa_, s0_, s1_, i64_w, i32_w]; rfl) ?_
    refine pu_ (v := undef) 24 (some 221) HT_ rfl rfl (.inr ⟨by rfl, rfl⟩) (by simp only [Act.put, sa_, s0_, s1_, i64_w, i32_w]; rfl) ?_
    refine pu_ (v := undef) 25 (some 222) HT_ rfl rfl (.inr ⟨by rfl, rfl⟩) (by simp only [Act.put, sa_, s0_, s1_, i64_w, i32_w]; rfl) ?_
    refine pu_ (v := undef) 26 (some 223) HT_ rfl rfl (.inr ⟨by rfl, rfl⟩) (by simp only [Act.put, sa_, s0_, s1_, i64_w, i32_w]; rfl) ?_
    refine pu_ (v := undef) 27 (some 224) HT_ rfl rfl (.inr ⟨by rfl, rfl⟩) (by simp only [Act.put, sa_, s0_, s1_, i64_w, i32_w]; rfl) ?_
    refine pu_ 28 (some 225) HT_ rfl rfl (.inl ⟨by rfl, by intro w'; go_simp; with_reducible rfl⟩) (by simp only [Act.put, sa_, s0_, s1_, i64_w, i32_w]; rfl) ?_
    refine done_ (done_of HT_.out (by kernel_rfl)) ?_
    try go_wp2
    go_meet
    case rel => exact ⟨_, (true), (by first | rfl | (simp; done) | (simp [*]; done)), H', ⟨by have := HJ16.out; have := HK2.out; have := HJ86.out; have := HK4.out; first | omega | exact Nat.le_refl _⟩, (sr_ HO_z47000), (sr_ HO_z47001), (sr_ HO_z86000), (sr_ HO_z86001), (sr_ HO_z94000), (sr_ HO_z94001), (sk_ BKz46), (sk_ BKz85), (sk_ BKz93), (sB_ HB)⟩
   as_aux_lemma =>
    rw [if_pos c211] at H
    have c211b0 : (((rdOf ByteArray.empty tz86 x33_4).size : Int) == 64) = true := beq_iff_eq.mpr c211
    have c211b1 : (((rdOf ByteArray.empty tz86 x33_4).size : Int) != 64) = false := bne_eq_false_iff_eq.mpr c211
    clear c211
    have H' := am H
    clear H
    try go_wp2
    have n0_ := am (Kd.R_drew HO_z47000.out)
    have n1_ := am (Kd.R_drew HO_z47001.out)
    have n2_ := am (Kd.R_drew HO_z86000.out)
    have n3_ := am (Kd.R_drew HO_z86001.out)
    have n4_ := am (Kd.R_drew HO_z94000.out)
    have n5_ := am (Kd.R_drew HO_z94001.out)
    have n6_ := am (blk_drew BKz46.out)
    have n7_ := am (blk_drew BKz85.out)
    have n8_ := am (blk_drew BKz93.out)
    have n9_ := am (below_drew1 HB.out)
    clear HO_z47000 HO_z47001 HO_z86000 HO_z86001 HO_z94000 HO_z94001 BKz46 BKz85 BKz93 HB; have HO_z47000 := n0_; have HO_z47001 := n1_; have HO_z86000 := n2_; have HO_z86001 := n3_; have HO_z94000 := n4_; have HO_z94001 := n5_; have BKz46 := n6_; have BKz85 := n7_; have BKz93 := n8_; have HB := n9_; clear n0_ n1_ n2_ n3_ n4_ n5_ n6_ n7_ n8_ n9_
    have pz95 : 0 ≤ (x33_4 : Int) := of_decide_eq_true (by first | (with_reducible assumption) | assumption)
    have qz95 : x33_4 < (tz78.length : Int) := of_decide_eq_true (by first | (with_reducible assumption) | assumption)
    obtain ⟨adz95, ez95, hxz95_0⟩ := Kd.at_string (Kd.R_reads' HO_z86000.out).2.2 x33_4 pz95 qz95
    cases ez95
    replace pz95 := eq_true pz95
    replace qz95 := eq_true qz95
    have pz96 : 0 ≤ (x33_4 : Int) := of_decide_eq_true (by first | (with_reducible assumption) | assumption)
    have qz96 : x33_4 < (tz39.length : Int) := of_decide_eq_true (by first | (with_reducible assumption) | assumption)
    obtain ⟨adz96, ez96, hxz96_0⟩ := Kd.at_string (Kd.R_reads' HO_z47000.out).2.2 x33_4 pz96 qz96
    cases ez96
    replace pz96 := eq_true pz96
    replace qz96 := eq_true qz96
    have pz97 : 0 ≤ (x33_4 : Int) := of_decide_eq_true (by first | (with_reducible assumption) | assumption)
    have qz97 : x33_4 < (tz86.length : Int) := of_decide_eq_true (by first | (with_reducible assumption) | assumption)
    obtain ⟨adz97, ez97, hxz97_0⟩ := Kd.at_string (Kd.R_reads' HO_z94000.out).2.2 x33_4 pz97 qz97
    cases ez97
    replace pz97 := eq_true pz97
    replace qz97 := eq_true qz97
    have pz98 : 0 ≤ (x33_4 : Int) := of_decide_eq_true (by first | (with_reducible assumption) | assumption)
    have qz98 : x33_4 < (tz39.length : Int) := of_decide_eq_true (by first | (with_reducible assumption) | assumption)
    obtain ⟨adz98, ez98, hxz98_0⟩ := Kd.at_string (Kd.R_reads' HO_z47000.out).2.2 x33_4 pz98 qz98
    obtain rfl : adz96 = adz98 := (by injection ez98)
    replace pz98 := eq_true pz98
    replace qz98 := eq_true qz98
    refine start_ (n := 29) (S := fun w' => w'.cell? ⟨gbz85, 0, none⟩ = some (.slice (some adz95) tz78.length co110) ∧ w'.cell? ⟨gbz85, 1, none⟩ = some (.slice Ao115 tz81.length co115) ∧ w'.cell? ⟨gbz46, 0, none⟩ = some (.slice (some adz96) tz39.length co50) ∧ w'.cell? ⟨gbz46, 1, none⟩ = some (.slice Ao55 tz42.length co55) ∧ w'.cell? ⟨gbz93, 0, none⟩ = some (.slice (some adz97) tz86.length co120) ∧ w'.cell? ⟨gbz93, 1, none⟩ = some (.slice Ao126 tz89.length co126) ∧ w'.cell? (adz95.add (x33_4).toNat) = some (.string (rdOf ByteArray.empty tz78 x33_4)) ∧ w'.cell? (adz96.add (x33_4).toNat) = some (.string (rdOf ByteArray.empty tz39 x33_4)) ∧ w'.cell? (adz97.add (x33_4).toNat) = some (.string (rdOf ByteArray.empty tz86 x33_4)) ∧ w'.cell? (adz96.add (x33_4).toNat) = some (.string (rdOf ByteArray.empty tz39 x33_4))) (ds := []) #[false, false, false, false, false, false, false, false, false, false, false, false, false, false, false, false, false, false, false, false, false, false, false, false, false, false, false, false, false] (by kernel_rfl) rfl rfl ⟨(blk_cell BKz85.out 0).trans rfl, (blk_cell BKz85.out 1).trans rfl, (blk_cell BKz46.out 0).trans rfl, (blk_cell BKz46.out 1).trans rfl, (blk_cell BKz93.out 0).trans rfl, (blk_cell BKz93.out 1).trans rfl, hxz95_0, hxz96_0, hxz97_0, hxz98_0⟩ (fun hHeld => ?_); refine with_tabW columbariumlaw14_DiskCrashes.tab30 columbariumlaw14_DiskCrashes.bits30 (fun HT_ HW_ => ?_)
    generalize wr.drew = w212 at HO_z47000 HO_z47001 HO_z86000 HO_z86001 HO_z94000 HO_z94001 BKz46 BKz85 BKz93 HB hxz95_0 hxz96_0 hxz97_0 hxz98_0 hHeld ⊢
    refine pu_ 0 (some 197) HT_ rfl rfl (.inl ⟨by rfl, by intro w'; go_simp; with_reducible rfl⟩) (by simp only [Act.put, sa_, s0_, s1_, i64_w, i32_w]; rfl) ?_
    refine pu_ 2 (some 199) HT_ rfl rfl (.inl ⟨by rfl, by intro w'; go_simp; with_reducible rfl⟩) (by simp only [Act.put, sa_, s0_, s1_, i64_w, i32_w]; rfl) ?_
    refine pu_ 5 (some 202) HT_ rfl rfl (.inl ⟨by rfl, by intro w'; go_simp; with_reducible rfl⟩) (by simp only [Act.put, sa_, s0_, s1_, i64_w, i32_w]; rfl) ?_
    refine pu_ 7 (some 204) HT_ rfl rfl (.inl ⟨by rfl, by intro w'; go_simp; with_reducible rfl⟩) (by simp only [Act.put, sa_, s0_, s1_, i64_w, i32_w]; rfl) ?_
    refine tk_ 1 (some 198) HT_ HW_ rfl rfl (.inl ⟨by rfl, by rintro w' ⟨s0, s1, s2, s3, s4, s5, s6, s7, s8, s9⟩; go_simp; with_reducible rfl⟩) hHeld (by simp only [Act.put, sa_, s0_, s1_, i64_w, i32_w]; rfl) ?_
    refine pu_ 3 (some 200) HT_ rfl rfl (.inl ⟨by rfl, by intro w'; go_simp; with_reducible rfl⟩) (by simp only [Act.put, sa_, s0_, s1_, i64_w, i32_w]; rfl) ?_
    refine tk_ 4 (some 201) HT_ HW_ rfl rfl (.inl ⟨by rfl, by rintro w' ⟨s0, s1, s2, s3, s4, s5, s6, s7, s8, s9⟩; go_simp; with_reducible rfl⟩) hHeld (by simp only [Act.put, sa_, s0_, s1_, i64_w, i32_w]; rfl) ?_
    refine tk_ 6 (some 203) HT_ HW_ rfl rfl (.inl ⟨by rfl, by rintro w' ⟨s0, s1, s2, s3, s4, s5, s6, s7, s8, s9⟩; go_simp; with_reducible rfl⟩) hHeld (by simp only [Act.put, sa_, s0_, s1_, i64_w, i32_w]; rfl) ?_
    refine pu_ 8 (some 205) HT_ rfl rfl (.inl ⟨by rfl, by intro w'; go_simp; with_reducible rfl⟩) (by simp only [Act.put, sa_, s0_, s1_, i64_w, i32_w]; rfl) ?_
    refine tk_ 9 (some 206) HT_ HW_ rfl rfl (.inl ⟨by rfl, by rintro w' ⟨s0, s1, s2, s3, s4, s5, s6, s7, s8, s9⟩; go_simp; with_reducible rfl⟩) hHeld (by simp only [Act.put, sa_, s0_, s1_, i64_w, i32_w]; rfl) ?_
    refine pu_ 10 (some 207) HT_ rfl rfl (.inl ⟨by rfl, by intro w'; go_simp; with_reducible rfl⟩) (by simp only [Act.put, sa_, s0_, s1_, i64_w, i32_w]; rfl) ?_
    refine pu_ 11 (some 208) HT_ rfl rfl (.inl ⟨by rfl, by intro w'; go_simp; with_reducible rfl⟩) (by simp only [Act.put, sa_, s0_, s1_, i64_w, i32_w]; rfl) ?_
    refine pu_ 12 (some 209) HT_ rfl rfl (.inl ⟨by rfl, by intro w'; go_simp; with_reducible rfl⟩) (by simp only [Act.put, sa_, s0_, s1_, i64_w, i32_w]; rfl) ?_
    refine pu_ 14 (some 211) HT_ rfl rfl (.inl ⟨by rfl, by intro w'; go_simp; with_reducible rfl⟩) (by simp only [Act.put, sa_, s0_, s1_, i64_w, i32_w]; rfl) ?_
    refine tk_ 13 (some 210) HT_ HW_ rfl rfl (.inl ⟨by rfl, by rintro w' ⟨s0, s1, s2, s3, s4, s5, s6, s7, s8, s9⟩; go_simp; with_reducible rfl⟩) hHeld (by simp only [Act.put, sa_, s0_, s1_, i64_w, i32_w]; rfl) ?_
    refine pu_ 15 (some 212) HT_ rfl rfl (.inl ⟨by rfl, by intro w'; go_simp; with_reducible rfl⟩) (by simp only [Act.put, sa_, s0_, s1_, i64_w, i32_w]; rfl) ?_
    refine tk_ 16 (some 213) HT_ HW_ rfl rfl (.inl ⟨by rfl, by rintro w' ⟨s0, s1, s2, s3, s4, s5, s6, s7, s8, s9⟩; go_simp; with_reducible rfl⟩) hHeld (by simp only [Act.put, sa_, s0_, s1_, i64_w, i32_w]; rfl) ?_
    refine pu_ 17 (some 214) HT_ rfl rfl (.inl ⟨by rfl, by intro w'; go_simp; with_reducible rfl⟩) (by simp only [Act.put, sa_, s0_, s1_, i64_w, i32_w]; rfl) ?_
    refine pu_ 18 (some 215) HT_ rfl rfl (.inl ⟨by rfl, by intro w'; go_simp; with_reducible rfl⟩) (by simp only [Act.put, sa_, s0_, s1_, i64_w, i32_w]; rfl) ?_
    refine pu_ 19 (some 216) HT_ rfl rfl (.inl ⟨by rfl, by intro w'; go_simp; with_reducible rfl⟩) (by simp only [Act.put, sa_, s0_, s1_, i64_w, i32_w]; rfl) ?_
    refine pu_ 20 (some 217) HT_ rfl rfl (.inl ⟨by rfl, by intro w'; go_simp; with_reducible rfl⟩) (by simp only [Act.put, sa_, s0_, s1_, i64_w, i32_w]; rfl) ?_
    refine pu_ 21 (some 218) HT_ rfl rfl (.inl ⟨by rfl, by intro w'; go_simp; with_reducible rfl⟩) (by simp only [Act.put, sa_, s0_, s1_, i64_w, i32_w]; rfl) ?_
    refine pu_ 23 (some 220) HT_ rfl rfl (.inl ⟨by rfl, by intro w'; go_simp; with_reducible rfl⟩) (by simp only [Act.put, sa_, s0_, s1_, i64_w, i32_w]; rfl) ?_
    refine tk_ 22 (some 219) HT_ HW_ rfl rfl (.inl ⟨by rfl, by rintro w' ⟨s0, s1, s2, s3, s4, s5, s6, s7, s8, s9⟩; go_simp; with_reducible rfl⟩) hHeld (by simp only [Act.put, sa_, s0_, s1_, i64_w, i32_w]; rfl) ?_
    refine pu_ 24 (some 221) HT_ rfl rfl (.inl ⟨by rfl, by intro w'; go_simp; with_reducible rfl⟩) (by simp only [Act.put, sa_, s0_, s1_, i64_w, i32_w]; rfl) ?_
    refine tk_ 25 (some 222) HT_ HW_ rfl rfl (.inl ⟨by rfl, by rintro w' ⟨s0, s1, s2, s3, s4, s5, s6, s7, s8, s9⟩; go_simp; with_reducible rfl⟩) hHeld (by simp only [Act.put, sa_, s0_, s1_, i64_w, i32_w]; rfl) ?_
    refine pu_ 26 (some 223) HT_ rfl rfl (.inl ⟨by rfl, by intro w'; go_simp; with_reducible rfl⟩) (by simp only [Act.put, sa_, s0_, s1_, i64_w, i32_w]; rfl) ?_
    refine pu_ 27 (some 224) HT_ rfl rfl (.inl ⟨by rfl, by intro w'; go_simp; with_reducible rfl⟩) (by simp only [Act.put, sa_, s0_, s1_, i64_w, i32_w]; rfl) ?_
    refine pu_ 28 (some 225) HT_ rfl rfl (.inl ⟨by rfl, by intro w'; go_simp; with_reducible rfl⟩) (by simp only [Act.put, sa_, s0_, s1_, i64_w, i32_w]; rfl) ?_
    refine done_ (done_of HT_.out (by kernel_rfl)) ?_
    try go_wp2
    go_meet
    case rel => exact ⟨_, ((((rdOf ByteArray.empty tz39 x33_4).size : Int) != 64)), (by first | rfl | (simp; done) | (simp [*]; done)), H', ⟨by have := HJ16.out; have := HK2.out; have := HJ86.out; have := HK4.out; first | omega | exact Nat.le_refl _⟩, (sr_ HO_z47000), (sr_ HO_z47001), (sr_ HO_z86000), (sr_ HO_z86001), (sr_ HO_z94000), (sr_ HO_z94001), (sk_ BKz46), (sk_ BKz85), (sk_ BKz93), (sB_ HB)⟩
  clear HC205
  try clear c2
  try clear p2
  try clear p5
  try clear q5
  try clear hx5
  try clear c20
  try clear c21
  try clear p50
  try clear q50
  try clear hx50
  try clear c206
  try clear c207
  try clear c208
  try clear c209
  try clear c209b0
  try clear c209b1
  try clear c210
  try clear c211
  try clear c211b0
  try clear c211b1
  try clear hxz95_0
  try clear hxz96_0
  try clear hxz97_0
  try clear pz95
  try clear pz96
  try clear pz97
  try clear qz95
  try clear qz96
  try clear qz97
  (try clear HO_z47000); (try clear HO_z47001); (try clear HO_z86000); (try clear HO_z86001); (try clear HO_z94000); (try clear HO_z94001); (try clear BKz46); (try clear BKz85); (try clear BKz93)
  obtain ⟨kq, x225_204, rfl, HA, HJ204, HO_z47000, HO_z47001, HO_z86000, HO_z86001, HO_z94000, HO_z94001, BKz46, BKz85, BKz93, HB⟩ := hcut
  cases kq with
  | zero => exact absurd HA.out (by simp [columbariumlaw14_DiskCrashes.j4])
  | succ kj204 => ?_
  have H := HA.out
  clear HA
  simp only [columbariumlaw14_DiskCrashes.j4] at H
  by_cases c215 : x225_204 = true
  ·subst c215
   have H1 : (none) = some r := by rw [if_pos rfl] at H; exact H
   clear H
   have H := H1
   clear H1
   exact absurd H (by simp)
  replace c215 := Bool.eq_false_iff.mpr c215
  subst c215
  have H1 : (columbariumlaw14_DiskCrashes.l2 kj204 tz1 (wrap64 (1 + tz2)) x33_4 0 tz39 tz42 tz78 tz81 tz86 tz89) = some r := by rw [if_neg (show ¬ (false = true) by decide)] at H; exact H
  clear H
  have H := H1
  clear H1
  have H' := am H
  clear H
  go_wp2
  go_loopg [34] kj204 (fun kq v34 w' => ∃ (x34_6 : Int), v34 = .int .i64 x34_6 ∧ Aside0 (columbariumlaw14_DiskCrashes.l2 kq tz1 (wrap64 (1 + tz2)) x33_4 x34_6 tz39 tz42 tz78 tz81 tz86 tz89 = some r) ∧ Aside0 (kq ≤ kj204) ∧ Aside0 (Kd.R Kd.string 9 w' w.heap.size (fun _ => True) (.slice Ao50 tz39.length co50) tz39) ∧ Aside0 (Kd.R k24 24 w' w.heap.size (fun _ => True) (.slice Ao55 tz42.length co55) tz42) ∧ Aside0 (Kd.R Kd.string 9 w' w.heap.size (fun _ => True) (.slice Ao110 tz78.length co110) tz78) ∧ Aside0 (Kd.R k24 24 w' w.heap.size (fun _ => True) (.slice Ao115 tz81.length co115) tz81) ∧ Aside0 (Kd.R Kd.string 9 w' w.heap.size (fun _ => True) (.slice Ao120 tz86.length co120) tz86) ∧ Aside0 (Kd.R k24 24 w' w.heap.size (fun _ => True) (.slice Ao126 tz89.length co126) tz89) ∧ Aside0 (w'.heap[gbz46]? = some (.cells #[(.slice Ao50 tz39.length co50), (.slice Ao55 tz42.length co55)] 30 (0, 0))) ∧ Aside0 (w'.heap[gbz85]? = some (.cells #[(.slice Ao110 tz78.length co110), (.slice Ao115 tz81.length co115)] 30 (0, 0))) ∧ Aside0 (w'.heap[gbz93]? = some (.cells #[(.slice Ao120 tz86.length co120), (.slice Ao126 tz89.length co126)] 30 (0, 0))) ∧ Aside0 (Below w.heap.size w w'))
  case atStart => exact ⟨(0), (by first | rfl | (simp; done) | (simp [*]; done)), H', ⟨Nat.le_refl _⟩, (sr_ HO_z47000), (sr_ HO_z47001), (sr_ HO_z86000), (sr_ HO_z86001), (sr_ HO_z94000), (sr_ HO_z94001), (sk_ BKz46), (sk_ BKz85), (sk_ BKz93), (sB_ HB)⟩
  clear H'
  try clear c2
  try clear p2
  try clear p5
  try clear q5
  try clear hx5
  try clear p6
  try clear c20
  try clear c21
  try clear p50
  try clear q50
  try clear hx50
  try clear p64
  try clear c206
  try clear c207
  try clear c208
  try clear c209
  try clear c209b0
  try clear c209b1
  try clear c210
  try clear c211
  try clear c211b0
  try clear c211b1
  try clear c215
  try clear hxz95_0
  try clear hxz96_0
  try clear hxz97_0
  try clear p2
  try clear p5
  try clear p50
  try clear pz95
  try clear pz96
  try clear pz97
  try clear q5
  try clear q50
  try clear qz95
  try clear qz96
  try clear qz97
  (try clear HO_z47000); (try clear HO_z47001); (try clear HO_z86000); (try clear HO_z86001); (try clear HO_z94000); (try clear HO_z94001); (try clear BKz46); (try clear BKz85); (try clear BKz93)
  obtain ⟨x34_6, rfl, HA, HK6, HO_z47000, HO_z47001, HO_z86000, HO_z86001, HO_z94000, HO_z94001, BKz46, BKz85, BKz93, HB⟩ := hrel
  cases gk with
  | zero => exact absurd HA.out (by simp [columbariumlaw14_DiskCrashes.l2])
  | succ k6 => ?_
  have H := HA.out
  clear HA
  simp only [columbariumlaw14_DiskCrashes.l2] at H
  by_cases c216 : x34_6 < 64
  rotate_left
  ·rw [if_neg c216] at H
   have c216b0 : decide (x34_6 < 64) = false := decide_eq_false c216
   clear c216
   have H' := am H
   clear H
   go_wp2
   go_roundg k6
   case measure => have := HJ16.out; have := HK2.out; have := HJ86.out; have := HK4.out; have := HJ204.out; have := HK6.out; omega
   case rel => exact ⟨(wrap64 (x33_4 + 1)), (by first | rfl | (simp; done) | (simp [*]; done)), H', ⟨by have := HJ16.out; have := HK2.out; have := HJ86.out; have := HK4.out; have := HJ204.out; have := HK6.out; omega⟩, (sr_ HO_z47000), (sr_ HO_z47001), (sr_ HO_z86000), (sr_ HO_z86001), (sr_ HO_z94000), (sr_ HO_z94001), (sk_ BKz46), (sk_ BKz85), (sk_ BKz93), (sB_ HB)⟩
  rw [if_pos c216] at H
  have c216b0 : decide (x34_6 < 64) = true := decide_eq_true c216
  clear c216
  by_cases c217 : 0 ≤ x33_4
  rotate_left
  ·rw [if_neg c217] at H
   exact absurd H (by simp)
  rw [if_pos c217] at H
  have c217b0 : decide (0 ≤ x33_4) = true := decide_eq_true c217
  clear c217
  by_cases c218 : x33_4 < (tz86.length : Int)
  rotate_left
  ·rw [if_neg c218] at H
   exact absurd H (by simp)
  rw [if_pos c218] at H
  have c218b0 : decide (x33_4 < (tz86.length : Int)) = true := decide_eq_true c218
  clear c218
  by_cases c219 : 0 ≤ x34_6
  rotate_left
  ·rw [if_neg c219] at H
   exact absurd H (by simp)
  rw [if_pos c219] at H
  have c219b0 : decide (0 ≤ x34_6) = true := decide_eq_true c219
  clear c219
  by_cases c220 : x34_6 < ((rdOf ByteArray.empty tz86 x33_4).size : Int)
  rotate_left
  ·rw [if_neg c220] at H
   exact absurd H (by simp)
  rw [if_pos c220] at H
  have c220b0 : decide (x34_6 < ((rdOf ByteArray.empty tz86 x33_4).size : Int)) = true := decide_eq_true c220
  clear c220
  by_cases c222 : x33_4 < (tz39.length : Int)
  rotate_left
  ·rw [if_neg c222] at H
   exact absurd H (by simp)
  rw [if_pos c222] at H
  have c222b0 : decide (x33_4 < (tz39.length : Int)) = true := decide_eq_true c222
  clear c222
  by_cases c223 : x34_6 < ((rdOf ByteArray.empty tz39 x33_4).size : Int)
  rotate_left
  ·rw [if_neg c223] at H
   exact absurd H (by simp)
  rw [if_pos c223] at H
  have c223b0 : decide (x34_6 < ((rdOf ByteArray.empty tz39 x33_4).size : Int)) = true := decide_eq_true c223
  clear c223
  have H' := am H
  clear H
  try go_wp2
  have n0_ := am (Kd.R_drew HO_z47000.out)
  have n1_ := am (Kd.R_drew HO_z47001.out)
  have n2_ := am (Kd.R_drew HO_z86000.out)
  have n3_ := am (Kd.R_drew HO_z86001.out)
  have n4_ := am (Kd.R_drew HO_z94000.out)
  have n5_ := am (Kd.R_drew HO_z94001.out)
  have n6_ := am (blk_drew BKz46.out)
  have n7_ := am (blk_drew BKz85.out)
  have n8_ := am (blk_drew BKz93.out)
  have n9_ := am (below_drew1 HB.out)
  clear HO_z47000 HO_z47001 HO_z86000 HO_z86001 HO_z94000 HO_z94001 BKz46 BKz85 BKz93 HB; have HO_z47000 := n0_; have HO_z47001 := n1_; have HO_z86000 := n2_; have HO_z86001 := n3_; have HO_z94000 := n4_; have HO_z94001 := n5_; have BKz46 := n6_; have BKz85 := n7_; have BKz93 := n8_; have HB := n9_; clear n0_ n1_ n2_ n3_ n4_ n5_ n6_ n7_ n8_ n9_
  have pz99 : 0 ≤ (x33_4 : Int) := of_decide_eq_true (by first | (with_reducible assumption) | assumption)
  have qz99 : x33_4 < (tz86.length : Int) := of_decide_eq_true (by first | (with_reducible assumption) | assumption)
  obtain ⟨adz99, ez99, hxz99_0⟩ := Kd.at_string (Kd.R_reads' HO_z94000.out).2.2 x33_4 pz99 qz99
  cases ez99
  replace pz99 := eq_true pz99
  replace qz99 := eq_true qz99
  have p221 : 0 ≤ (x34_6 : Int) := of_decide_eq_true (by first | (with_reducible assumption) | assumption)
  have q221 : x34_6 < ((rdOf ByteArray.empty tz86 x33_4).size : Int) := of_decide_eq_true (by first | (with_reducible assumption) | assumption)
  have hx221 := bt_at (rdOf ByteArray.empty tz86 x33_4) x34_6
  replace p221 := eq_true p221
  replace q221 := eq_true q221
  have pz100 : 0 ≤ (x33_4 : Int) := of_decide_eq_true (by first | (with_reducible assumption) | assumption)
  have qz100 : x33_4 < (tz39.length : Int) := of_decide_eq_true (by first | (with_reducible assumption) | assumption)
  obtain ⟨adz100, ez100, hxz100_0⟩ := Kd.at_string (Kd.R_reads' HO_z47000.out).2.2 x33_4 pz100 qz100
  cases ez100
  replace pz100 := eq_true pz100
  replace qz100 := eq_true qz100
  have p224 : 0 ≤ (x34_6 : Int) := of_decide_eq_true (by first | (with_reducible assumption) | assumption)
  have q224 : x34_6 < ((rdOf ByteArray.empty tz39 x33_4).size : Int) := of_decide_eq_true (by first | (with_reducible assumption) | assumption)
  have hx224 := bt_at (rdOf ByteArray.empty tz39 x33_4) x34_6
  replace p224 := eq_true p224
  replace q224 := eq_true q224
  refine start_ (n := 16) (S := fun w' => w'.cell? ⟨gbz93, 0, none⟩ = some (.slice (some adz99) tz86.length co120) ∧ w'.cell? ⟨gbz93, 1, none⟩ = some (.slice Ao126 tz89.length co126) ∧ w'.cell? ⟨gbz46, 0, none⟩ = some (.slice (some adz100) tz39.length co50) ∧ w'.cell? ⟨gbz46, 1, none⟩ = some (.slice Ao55 tz42.length co55) ∧ w'.cell? (adz99.add (x33_4).toNat) = some (.string (rdOf ByteArray.empty tz86 x33_4)) ∧ w'.cell? (adz100.add (x33_4).toNat) = some (.string (rdOf ByteArray.empty tz39 x33_4))) (ds := []) #[false, false, false, false, false, false, false, false, false, false, false, false, false, false, false, false] (by kernel_rfl) rfl rfl ⟨(blk_cell BKz93.out 0).trans rfl, (blk_cell BKz93.out 1).trans rfl, (blk_cell BKz46.out 0).trans rfl, (blk_cell BKz46.out 1).trans rfl, hxz99_0, hxz100_0⟩ (fun hHeld => ?_); refine with_tabW columbariumlaw14_DiskCrashes.tab35 columbariumlaw14_DiskCrashes.bits35 (fun HT_ HW_ => ?_)
  generalize wr.drew = w225 at HO_z47000 HO_z47001 HO_z86000 HO_z86001 HO_z94000 HO_z94001 BKz46 BKz85 BKz93 HB hxz99_0 hxz100_0 hHeld ⊢
  refine pu_ 0 (some 230) HT_ rfl rfl (.inl ⟨by rfl, by intro w'; go_simp; with_reducible rfl⟩) (by simp only [Act.put, sa_, s0_, s1_, i64_w, i32_w]; rfl) ?_
  refine pu_ 2 (some 232) HT_ rfl rfl (.inl ⟨by rfl, by intro w'; go_simp; with_reducible rfl⟩) (by simp only [Act.put, sa_, s0_, s1_, i64_w, i32_w]; rfl) ?_
  refine pu_ 5 (some 235) HT_ rfl rfl (.inl ⟨by rfl, by intro w'; go_simp; with_reducible rfl⟩) (by simp only [Act.put, sa_, s0_, s1_, i64_w, i32_w]; rfl) ?_
  refine pu_ 7 (some 237) HT_ rfl rfl (.inl ⟨by rfl, by intro w'; go_simp; with_reducible rfl⟩) (by simp only [Act.put, sa_, s0_, s1_, i64_w, i32_w]; rfl) ?_
  refine pu_ 9 (some 239) HT_ rfl rfl (.inl ⟨by rfl, by intro w'; go_simp; with_reducible rfl⟩) (by simp only [Act.put, sa_, s0_, s1_, i64_w, i32_w]; rfl) ?_
  refine pu_ 12 (some 242) HT_ rfl rfl (.inl ⟨by rfl, by intro w'; go_simp; with_reducible rfl⟩) (by simp only [Act.put, sa_, s0_, s1_, i64_w, i32_w]; rfl) ?_
  refine tk_ 1 (some 231) HT_ HW_ rfl rfl (.inl ⟨by rfl, by rintro w' ⟨s0, s1, s2, s3, s4, s5⟩; go_simp; with_reducible rfl⟩) hHeld (by simp only [Act.put, sa_, s0_, s1_, i64_w, i32_w]; rfl) ?_
  refine pu_ 3 (some 233) HT_ rfl rfl (.inl ⟨by rfl, by intro w'; go_simp; with_reducible rfl⟩) (by simp only [Act.put, sa_, s0_, s1_, i64_w, i32_w]; rfl) ?_
  refine tk_ 4 (some 234) HT_ HW_ rfl rfl (.inl ⟨by rfl, by rintro w' ⟨s0, s1, s2, s3, s4, s5⟩; go_simp; with_reducible rfl⟩) hHeld (by simp only [Act.put, sa_, s0_, s1_, i64_w, i32_w]; rfl) ?_
  refine tk_ 6 (some 236) HT_ HW_ rfl rfl (.inl ⟨by rfl, by rintro w' ⟨s0, s1, s2, s3, s4, s5⟩; go_simp; with_reducible rfl⟩) hHeld (by simp only [Act.put, sa_, s0_, s1_, i64_w, i32_w]; rfl) ?_
  refine tk_ 8 (some 238) HT_ HW_ rfl rfl (.inl ⟨by rfl, by rintro w' ⟨s0, s1, s2, s3, s4, s5⟩; go_simp; with_reducible rfl⟩) hHeld (by simp only [Act.put, sa_, s0_, s1_, i64_w, i32_w]; rfl) ?_
  refine pu_ 10 (some 240) HT_ rfl rfl (.inl ⟨by rfl, by intro w'; go_simp; with_reducible rfl⟩) (by simp only [Act.put, sa_, s0_, s1_, i64_w, i32_w]; rfl) ?_
  refine tk_ 11 (some 241) HT_ HW_ rfl rfl (.inl ⟨by rfl, by rintro w' ⟨s0, s1, s2, s3, s4, s5⟩; go_simp; with_reducible rfl⟩) hHeld (by simp only [Act.put, sa_, s0_, s1_, i64_w, i32_w]; rfl) ?_
  refine tk_ 13 (some 243) HT_ HW_ rfl rfl (.inl ⟨by rfl, by rintro w' ⟨s0, s1, s2, s3, s4, s5⟩; go_simp; with_reducible rfl⟩) hHeld (by simp only [Act.put, sa_, s0_, s1_, i64_w, i32_w]; rfl) ?_
  refine pu_ 14 (some 244) HT_ rfl rfl (.inl ⟨by rfl, by intro w'; go_simp; with_reducible rfl⟩) (by simp only [Act.put, sa_, s0_, s1_, i64_w, i32_w]; rfl) ?_
  refine pu_ 15 (some 35) HT_ rfl rfl (.inl ⟨by rfl, by intro w'; go_simp; with_reducible rfl⟩) (by simp only [Act.put, sa_, s0_, s1_, i64_w, i32_w]; rfl) ?_
  refine done_ (done_of HT_.out (by kernel_rfl)) ?_
  try go_wp2
  go_loopg [35, 36] k6 (fun kq v35 v36 w' => ∃ (x35_7 : Bool) (x36_7 : Int), v35 = .bool x35_7 ∧ v36 = .int .i64 x36_7 ∧ Aside0 (columbariumlaw14_DiskCrashes.l3 kq tz1 (wrap64 (1 + tz2)) x33_4 x34_6 x35_7 x36_7 tz39 tz42 tz78 tz81 tz86 tz89 = some r) ∧ Aside0 (kq ≤ k6) ∧ Aside0 (Kd.R Kd.string 9 w' w.heap.size (fun _ => True) (.slice (some adz100) tz39.length co50) tz39) ∧ Aside0 (Kd.R k24 24 w' w.heap.size (fun _ => True) (.slice Ao55 tz42.length co55) tz42) ∧ Aside0 (Kd.R Kd.string 9 w' w.heap.size (fun _ => True) (.slice Ao110 tz78.length co110) tz78) ∧ Aside0 (Kd.R k24 24 w' w.heap.size (fun _ => True) (.slice Ao115 tz81.length co115) tz81) ∧ Aside0 (Kd.R Kd.string 9 w' w.heap.size (fun _ => True) (.slice (some adz99) tz86.length co120) tz86) ∧ Aside0 (Kd.R k24 24 w' w.heap.size (fun _ => True) (.slice Ao126 tz89.length co126) tz89) ∧ Aside0 (w'.heap[gbz46]? = some (.cells #[(.slice (some adz100) tz39.length co50), (.slice Ao55 tz42.length co55)] 30 (0, 0))) ∧ Aside0 (w'.heap[gbz85]? = some (.cells #[(.slice Ao110 tz78.length co110), (.slice Ao115 tz81.length co115)] 30 (0, 0))) ∧ Aside0 (w'.heap[gbz93]? = some (.cells #[(.slice (some adz99) tz86.length co120), (.slice Ao126 tz89.length co126)] 30 (0, 0))) ∧ Aside0 (Below w.heap.size w w'))
  case atStart => exact ⟨(((bt (rdOf ByteArray.empty tz86 x33_4) x34_6) == (bt (rdOf ByteArray.empty tz39 x33_4) x34_6))), (0), (by first | rfl | (simp; done) | (simp [*]; done)), (by first | rfl | (simp; done) | (simp [*]; done)), H', ⟨Nat.le_refl _⟩, (sr_ HO_z47000), (sr_ HO_z47001), (sr_ HO_z86000), (sr_ HO_z86001), (sr_ HO_z94000), (sr_ HO_z94001), (sk_ BKz46), (sk_ BKz85), (sk_ BKz93), (sB_ HB)⟩
  clear H'
  try clear c2
  try clear p2
  try clear q2
  try clear hx2
  try clear p5
  try clear q5
  try clear hx5
  try clear p6
  try clear c20
  try clear c21
  try clear c22
  try clear p22
  try clear q22
  try clear hx22
  try clear p50
  try clear q50
  try clear hx50
  try clear p64
  try clear c206
  try clear c207
  try clear c208
  try clear c209
  try clear c209b0
  try clear c209b1
  try clear c210
  try clear c211
  try clear c211b0
  try clear c211b1
  try clear c215
  try clear c216
  try clear c216b0
  try clear c217
  try clear c217b0
  try clear c218
  try clear c218b0
  try clear c219
  try clear c219b0
  try clear c220
  try clear c220b0
  try clear p221
  try clear q221
  try clear hx221
  try clear c222
  try clear c222b0
  try clear c223
  try clear c223b0
  try clear p224
  try clear q224
  try clear hx224
  try clear hxz95_0
  try clear hxz96_0
  try clear hxz97_0
  try clear hxz99_0
  try clear hxz100_0
  try clear p2
  try clear p221
  try clear p224
  try clear p5
  try clear p50
  try clear pz95
  try clear pz96
  try clear pz97
  try clear pz99
  try clear pz100
  try clear p6
  try clear p64
  try clear q221
  try clear q224
  try clear q5
  try clear q50
  try clear qz95
  try clear qz96
  try clear qz97
  try clear qz99
  try clear qz100
  (try clear HO_z47000); (try clear HO_z47001); (try clear HO_z86000); (try clear HO_z86001); (try clear HO_z94000); (try clear HO_z94001); (try clear BKz46); (try clear BKz85); (try clear BKz93)
  obtain ⟨x35_7, x36_7, rfl, rfl, HA, HK7, HO_z47000, HO_z47001, HO_z86000, HO_z86001, HO_z94000, HO_z94001, BKz46, BKz85, BKz93, HB⟩ := hrel
  cases gk with
  | zero => exact absurd HA.out (by simp [columbariumlaw14_DiskCrashes.l3])
  | succ k7 => ?_
  have H := HA.out
  clear HA
  simp only [columbariumlaw14_DiskCrashes.l3] at H
  by_cases c226 : x36_7 < (tz42.length : Int)
  rotate_left
  ·rw [if_neg c226] at H
   have c226b0 : decide (x36_7 < (tz42.length : Int)) = false := decide_eq_false c226
   clear c226
   by_cases c249 : x35_7 = true
   rotate_left
   ·replace c249 := Bool.eq_false_iff.mpr c249
    subst c249
    have H1 : (none) = some r := by rw [if_neg (show ¬ (false = true) by decide)] at H; exact H
    clear H
    have H := H1
    clear H1
    exact absurd H (by simp)
   subst c249
   have H1 : (columbariumlaw14_DiskCrashes.l2 k7 tz1 (wrap64 (1 + tz2)) x33_4 (wrap64 (x34_6 + 1)) tz39 tz42 tz78 tz81 tz86 tz89) = some r := by rw [if_pos rfl] at H; exact H
   clear H
   have H := H1
   clear H1
   have H' := am H
   clear H
   have hnb250 := NBz46_z85.out
   have hnc250 := NBz85_z46.out
   have hnb251 := NBz46_z93.out
   have hnc251 := NBz93_z46.out
   obtain ⟨hcz252_0, hcz252_1⟩ := bc2 BKz46
   obtain ⟨hfz252_0, hfz252_1⟩ := bf2 BKz46
   go_wp2
   go_roundg k7
   case measure => have := HJ16.out; have := HK2.out; have := HJ86.out; have := HK4.out; have := HJ204.out; have := HK6.out; have := HK7.out; omega
   case rel => exact ⟨(wrap64 (x34_6 + 1)), (by first | rfl | (simp; done) | (simp [*]; done)), H', ⟨by have := HJ16.out; have := HK2.out; have := HJ86.out; have := HK4.out; have := HJ204.out; have := HK6.out; have := HK7.out; omega⟩, (sr_ HO_z47000), (sr_ HO_z47001), (sr_ HO_z86000), (sr_ HO_z86001), (sr_ HO_z94000), (sr_ HO_z94001), (sk_ BKz46), (sk_ BKz85), (sk_ BKz93), (sB_ HB)⟩
  as_aux_lemma =>
   rw [if_pos c226] at H
   have c226b0 : decide (x36_7 < (tz42.length : Int)) = true := decide_eq_true c226
   clear c226
   by_cases c227 : x35_7 = true
   ·subst c227
    have H1 : (columbariumlaw14_DiskCrashes.l3 k7 tz1 (wrap64 (1 + tz2)) x33_4 x34_6 true (wrap64 (x36_7 + 1)) tz39 tz42 tz78 tz81 tz86 tz89) = some r := by rw [if_pos rfl] at H; exact H
    clear H
    have H := H1
    clear H1
    have H' := am H
    clear H
    have hnb228 := NBz46_z85.out
    have hnc228 := NBz85_z46.out
    have hnb229 := NBz46_z93.out
    have hnc229 := NBz93_z46.out
    obtain ⟨hcz230_0, hcz230_1⟩ := bc2 BKz46
    obtain ⟨hfz230_0, hfz230_1⟩ := bf2 BKz46
    try go_wp2
    have n0_ := am (Kd.R_drew HO_z47000.out)
    have n1_ := am (Kd.R_drew HO_z47001.out)
    have n2_ := am (Kd.R_drew HO_z86000.out)
    have n3_ := am (Kd.R_drew HO_z86001.out)
    have n4_ := am (Kd.R_drew HO_z94000.out)
    have n5_ := am (Kd.R_drew HO_z94001.out)
    have n6_ := am (blk_drew BKz46.out)
    have n7_ := am (blk_drew BKz85.out)
    have n8_ := am (blk_drew BKz93.out)
    have n9_ := am (below_drew1 HB.out)
    clear HO_z47000 HO_z47001 HO_z86000 HO_z86001 HO_z94000 HO_z94001 BKz46 BKz85 BKz93 HB; have HO_z47000 := n0_; have HO_z47001 := n1_; have HO_z86000 := n2_; have HO_z86001 := n3_; have HO_z94000 := n4_; have HO_z94001 := n5_; have BKz46 := n6_; have BKz85 := n7_; have BKz93 := n8_; have HB := n9_; clear n0_ n1_ n2_ n3_ n4_ n5_ n6_ n7_ n8_ n9_
    refine start_ (n := 30) (S := fun w' => True) (ds := []) #[false, false, false, false, false, false, false, false, false, false, false, false, false, false, false, false, false, false, false, false, false, false, false, false, false, false, false, false, false, false] (by kernel_rfl) rfl rfl trivial (fun hHeld => ?_); refine with_tabW columbariumlaw14_DiskCrashes.tab39 columbariumlaw14_DiskCrashes.bits39 (fun HT_ HW_ => ?_)
    generalize wr.drew = w231 at HO_z47000 HO_z47001 HO_z86000 HO_z86001 HO_z94000 HO_z94001 BKz46 BKz85 BKz93 HB hHeld ⊢
    refine pu_ 0 (some 252) HT_ rfl rfl (.inl ⟨by rfl, by intro w'; go_simp; with_reducible rfl⟩) (by simp only [Act.put, sa_, s0_, s1_, i64_w, i32_w]; rfl) ?_
    refine pu_ 1 (some 253) HT_ rfl rfl (.inl ⟨by rfl, by intro w'; go_simp; with_reducible rfl⟩) (by simp only [Act.put, sa_, s0_, s1_, i64_w, i32_w]; rfl) ?_
    refine pu_ (v := undef) 2 (some 254) HT_ rfl rfl (.inr ⟨by rfl, rfl⟩) (by simp only [Act.put, sa_, s0_, s1_, i64_w, i32_w]; rfl) ?_
    refine pu_ (v := undef) 3 (some 255) HT_ rfl rfl (.inr ⟨by rfl, rfl⟩) (by simp only [Act.put, sa_, s0_, s1_, i64_w, i32_w]; rfl) ?_
    refine pu_ (v := undef) 4 (some 256) HT_ rfl rfl (.inr ⟨by rfl, rfl⟩) (by simp only [Act.put, sa_, s0_, s1_, i64_w, i32_w]; rfl) ?_
    refine pu_ (v := undef) 5 (some 257) HT_ rfl rfl (.inr ⟨by rfl, rfl⟩) (by simp only [Act.put, sa_, s0_, s1_, i64_w, i32_w]; rfl) ?_
    refine pu_ (v := undef) 6 (some 258) HT_ rfl rfl (.inr ⟨by rfl, rfl⟩) (by simp only [Act.put, sa_, s0_, s1_, i64_w, i32_w]; rfl) ?_
    refine pu_ (v := undef) 7 (some 259) HT_ rfl rfl (.inr ⟨by rfl, rfl⟩) (by simp only [Act.put, sa_, s0_, s1_, i64_w, i32_w]; rfl) ?_
    refine pu_ (v := undef) 8 (some 260) HT_ rfl rfl (.inr ⟨by rfl, rfl⟩) (by simp only [Act.put, sa_, s0_, s1_, i64_w, i32_w]; rfl) ?_
    refine pu_ (v := undef) 9 (some 261) HT_ rfl rfl (.inr ⟨by rfl, rfl⟩) (by simp only [Act.put, sa_, s0_, s1_, i64_w, i32_w]; rfl) ?_
    refine pu_ (v := undef) 10 (some 262) HT_ rfl rfl (.inr ⟨by rfl, rfl⟩) (by simp only [Act.put, sa_, s0_, s1_, i64_w, i32_w]; rfl) ?_
    refine pu_ (v := undef) 11 (some 263) HT_ rfl rfl (.inr ⟨by rfl, rfl⟩) (by simp only [Act.put, sa_, s0_, s1_, i64_w, i32_w]; rfl) ?_
    refine pu_ (v := undef) 12 (some 264) HT_ rfl rfl (.inr ⟨by rfl, rfl⟩) (by simp only [Act.put, sa_, s0_, s1_, i64_w, i32_w]; rfl) ?_
    refine pu_ (v := undef) 13 (some 265) HT_ rfl rfl (.inr ⟨by rfl, rfl⟩) (by simp only [Act.put, sa_, s0_, s1_, i64_w, i32_w]; rfl) ?_
    refine pu_ (v := undef) 14 (some 266) HT_ rfl rfl (.inr ⟨by rfl, rfl⟩) (by simp only [Act.put, sa_, s0_, s1_, i64_w, i32_w]; rfl) ?_
    refine pu_ (v := undef) 15 (some 267) HT_ rfl rfl (.inr ⟨by rfl, rfl⟩) (by simp only [Act.put, sa_, s0_, s1_, i64_w, i32_w]; rfl) ?_
    refine pu_ (v := undef) 16 (some 268) HT_ rfl rfl (.inr ⟨by rfl, rfl⟩) (by simp only [Act.put, sa_, s0_, s1_, i64_w, i32_w]; rfl) ?_
    refine pu_ (v := undef) 17 (some 269) HT_ rfl rfl (.inr ⟨by rfl, rfl⟩) (by simp only [Act.put, sa_, s0_, s1_, i64_w, i32_w]; rfl) ?_
    refine pu_ (v := undef) 18 (some 270) HT_ rfl rfl (.inr ⟨by rfl, rfl⟩) (by simp only [Act.put, sa_, s0_, s1_, i64_w, i32_w]; rfl) ?_
    refine pu_ (v := undef) 19 (some 271) HT_ rfl rfl (.inr ⟨by rfl, rfl⟩) (by simp only [Act.put, sa_, s0_, s1_, i64_w, i32_w]; rfl) ?_
    refine pu_ (v := undef) 20 (some 272) HT_ rfl rfl (.inr ⟨by rfl, rfl⟩) (by simp only [Act.put, sa_, s0_, s1_, i64_w, i32_w]; rfl) ?_
    refine pu_ (v := undef) 21 (some 273) HT_ rfl rfl (.inr ⟨by rfl, rfl⟩) (by simp only [Act.put, sa_, s0_, s1_, i64_w, i32_w]; rfl) ?_
    refine pu_ (v := undef) 22 (some 274) HT_ rfl rfl (.inr ⟨by rfl, rfl⟩) (by simp only [Act.put, sa_, s0_, s1_, i64_w, i32_w]; rfl) ?_
    refine pu_ (v := undef) 23 (some 275) HT_ rfl rfl (.inr ⟨by rfl, rfl⟩) (by simp only [Act.put, sa_, s0_, s1_, i64_w, i32_w]; rfl) ?_
    refine pu_ (v := undef) 24 (some 276) HT_ rfl rfl (.inr ⟨by rfl, rfl⟩) (by simp only [Act.put, sa_, s0_, s1_, i64_w, i32_w]; rfl) ?_
    refine pu_ (v := undef) 25 (some 277) HT_ rfl rfl (.inr ⟨by rfl, rfl⟩) (by simp only [Act.put, sa_, s0_, s1_, i64_w, i32_w]; rfl) ?_
    refine pu_ (v := undef) 26 (some 278) HT_ rfl rfl (.inr ⟨by rfl, rfl⟩) (by simp only [Act.put, sa_, s0_, s1_, i64_w, i32_w]; rfl) ?_
    refine pu_ (v := undef) 27 (some 279) HT_ rfl rfl (.inr ⟨by rfl, rfl⟩) (by simp only [Act.put, sa_, s0_, s1_, i64_w, i32_w]; rfl) ?_
    refine pu_ 28 (some 280) HT_ rfl rfl (.inl ⟨by rfl, by intro w'; go_simp; with_reducible rfl⟩) (by simp only [Act.put, sa_, s0_, s1_, i64_w, i32_w]; rfl) ?_
    refine pu_ 29 (some 35) HT_ rfl rfl (.inl ⟨by rfl, by intro w'; go_simp; with_reducible rfl⟩) (by simp only [Act.put, sa_, s0_, s1_, i64_w, i32_w]; rfl) ?_
    refine done_ (done_of HT_.out (by kernel_rfl)) ?_
    try go_wp2
    go_roundg k7
    case measure => have := HJ16.out; have := HK2.out; have := HJ86.out; have := HK4.out; have := HJ204.out; have := HK6.out; have := HK7.out; omega
    case rel => exact ⟨(true), (wrap64 (x36_7 + 1)), (by first | rfl | (simp; done) | (simp [*]; done)), (by first | rfl | (simp; done) | (simp [*]; done)), H', ⟨by have := HJ16.out; have := HK2.out; have := HJ86.out; have := HK4.out; have := HJ204.out; have := HK6.out; have := HK7.out; omega⟩, (sr_ HO_z47000), (sr_ HO_z47001), (sr_ HO_z86000), (sr_ HO_z86001), (sr_ HO_z94000), (sr_ HO_z94001), (sk_ BKz46), (sk_ BKz85), (sk_ BKz93), (sB_ HB)⟩
   replace c227 := Bool.eq_false_iff.mpr c227
   subst c227
   have H1 : (if 0 ≤ x36_7 then (if ((rd_T24 tz42 x36_7).f1) = x33_4 then (if 0 ≤ x34_6 then (if x34_6 < (((rd_T24 tz42 x36_7).f2).size : Int) then (if 0 ≤ x33_4 then (if x33_4 < (tz86.length : Int) then (if x34_6 < ((rdOf ByteArray.empty tz86 x33_4).size : Int) then (columbariumlaw14_DiskCrashes.l3 k7 tz1 (wrap64 (1 + tz2)) x33_4 x34_6 ((bt ((rd_T24 tz42 x36_7).f2) x34_6) == (bt (rdOf ByteArray.empty tz86 x33_4) x34_6)) (wrap64 (x36_7 + 1)) tz39 tz42 tz78 tz81 tz86 tz89) else (none)) else (none)) else (none)) else (none)) else (none)) else (columbariumlaw14_DiskCrashes.l3 k7 tz1 (wrap64 (1 + tz2)) x33_4 x34_6 false (wrap64 (x36_7 + 1)) tz39 tz42 tz78 tz81 tz86 tz89)) else (none)) = some r := by rw [if_neg (show ¬ (false = true) by decide)] at H; exact H
   clear H
   have H := H1
   clear H1
   by_cases c232 : 0 ≤ x36_7
   rotate_left
   ·rw [if_neg c232] at H
    exact absurd H (by simp)
   rw [if_pos c232] at H
   have c232b0 : decide (0 ≤ x36_7) = true := decide_eq_true c232
   clear c232
   by_cases c233 : ((rd_T24 tz42 x36_7).f1) = x33_4
   rotate_left
   ·rw [if_neg c233] at H
    have c233b0 : (((rd_T24 tz42 x36_7).f1) == x33_4) = false := beq_eq_false_iff_ne.mpr c233
    have c233b1 : (((rd_T24 tz42 x36_7).f1) != x33_4) = true := bne_iff_ne.mpr c233
    have H' := am H
    clear H
    have hnb245 := NBz46_z85.out
    have hnc245 := NBz85_z46.out
    have hnb246 := NBz46_z93.out
    have hnc246 := NBz93_z46.out
    obtain ⟨hcz247_0, hcz247_1⟩ := bc2 BKz46
    obtain ⟨hfz247_0, hfz247_1⟩ := bf2 BKz46
    try go_wp2
    have n0_ := am (Kd.R_drew HO_z47000.out)
    have n1_ := am (Kd.R_drew HO_z47001.out)
    have n2_ := am (Kd.R_drew HO_z86000.out)
    have n3_ := am (Kd.R_drew HO_z86001.out)
    have n4_ := am (Kd.R_drew HO_z94000.out)
    have n5_ := am (Kd.R_drew HO_z94001.out)
    have n6_ := am (blk_drew BKz46.out)
    have n7_ := am (blk_drew BKz85.out)
    have n8_ := am (blk_drew BKz93.out)
    have n9_ := am (below_drew1 HB.out)
    clear HO_z47000 HO_z47001 HO_z86000 HO_z86001 HO_z94000 HO_z94001 BKz46 BKz85 BKz93 HB; have HO_z47000 := n0_; have HO_z47001 := n1_; have HO_z86000 := n2_; have HO_z86001 := n3_; have HO_z94000 := n4_; have HO_z94001 := n5_; have BKz46 := n6_; have BKz85 := n7_; have BKz93 := n8_; have HB := n9_; clear n0_ n1_ n2_ n3_ n4_ n5_ n6_ n7_ n8_ n9_
    have pz101 : 0 ≤ (x36_7 : Int) := of_decide_eq_true (by first | (with_reducible assumption) | assumption)
    have qz101 : x36_7 < (tz42.length : Int) := of_decide_eq_true (by first | (with_reducible assumption) | assumption)
    obtain ⟨adz101, ez101, hxz101_0, hxz101_1, hxz101_2⟩ := at_T24 (Kd.R_reads' HO_z47001.out).2.2 x36_7 pz101 qz101
    cases ez101
    replace pz101 := eq_true pz101
    replace qz101 := eq_true qz101
    refine start_ (n := 30) (S := fun w' => w'.cell? ⟨gbz46, 0, none⟩ = some (.slice (some adz100) tz39.length co50) ∧ w'.cell? ⟨gbz46, 1, none⟩ = some (.slice (some adz101) tz42.length co55) ∧ w'.cell? (adz101.add ((x36_7).toNat * 3)) = some (.bool ((rd_T24 tz42 x36_7).f0)) ∧ w'.cell? ⟨(adz101.add ((x36_7).toNat * 3)).block, (adz101.add ((x36_7).toNat * 3)).off + 1, none⟩ = some (.int .i64 ((rd_T24 tz42 x36_7).f1)) ∧ w'.cell? ⟨(adz101.add ((x36_7).toNat * 3)).block, (adz101.add ((x36_7).toNat * 3)).off + 2, none⟩ = some (.string ((rd_T24 tz42 x36_7).f2))) (ds := []) #[false, false, false, false, false, false, false, false, false, false, false, false, false, false, false, false, false, false, false, false, false, false, false, false, false, false, false, false, false, false] (by kernel_rfl) rfl rfl ⟨(blk_cell BKz46.out 0).trans rfl, (blk_cell BKz46.out 1).trans rfl, hxz101_0, hxz101_1, hxz101_2⟩ (fun hHeld => ?_); refine with_tabW columbariumlaw14_DiskCrashes.tab39 columbariumlaw14_DiskCrashes.bits39 (fun HT_ HW_ => ?_)
    generalize wr.drew = w248 at HO_z47000 HO_z47001 HO_z86000 HO_z86001 HO_z94000 HO_z94001 BKz46 BKz85 BKz93 HB hxz101_0 hxz101_1 hxz101_2 hHeld ⊢
    refine pu_ 0 (some 252) HT_ rfl rfl (.inl ⟨by rfl, by intro w'; go_simp; with_reducible rfl⟩) (by simp only [Act.put, sa_, s0_, s1_, i64_w, i32_w]; rfl) ?_
    refine pu_ 1 (some 253) HT_ rfl rfl (.inl ⟨by rfl, by intro w'; go_simp; with_reducible rfl⟩) (by simp only [Act.put, sa_, s0_, s1_, i64_w, i32_w]; rfl) ?_
    refine pu_ 2 (some 254) HT_ rfl rfl (.inl ⟨by rfl, by intro w'; go_simp; with_reducible rfl⟩) (by simp only [Act.put, sa_, s0_, s1_, i64_w, i32_w]; rfl) ?_
    refine pu_ 4 (some 256) HT_ rfl rfl (.inl ⟨by rfl, by intro w'; go_simp; with_reducible rfl⟩) (by simp only [Act.put, sa_, s0_, s1_, i64_w, i32_w]; rfl) ?_
    refine pu_ 8 (some 260) HT_ rfl rfl (.inl ⟨by rfl, by intro w'; go_simp; with_reducible rfl⟩) (by simp only [Act.put, sa_, s0_, s1_, i64_w, i32_w]; rfl) ?_
    refine tk_ 3 (some 255) HT_ HW_ rfl rfl (.inl ⟨by rfl, by rintro w' ⟨s0, s1, s2, s3, s4⟩; go_simp; with_reducible rfl⟩) hHeld (by simp only [Act.put, sa_, s0_, s1_, i64_w, i32_w]; rfl) ?_
    refine pu_ 5 (some 257) HT_ rfl rfl (.inl ⟨by rfl, by intro w'; go_simp; with_reducible rfl⟩) (by simp only [Act.put, sa_, s0_, s1_, i64_w, i32_w]; rfl) ?_
    refine pu_ 6 (some 258) HT_ rfl rfl (.inl ⟨by rfl, by intro w'; go_simp; with_reducible rfl⟩) (by simp only [Act.put, sa_, s0_, s1_, i64_w, i32_w]; rfl) ?_
    refine tk_ 7 (some 259) HT_ HW_ rfl rfl (.inl ⟨by rfl, by rintro w' ⟨s0, s1, s2, s3, s4⟩; go_simp; with_reducible rfl⟩) hHeld (by simp only [Act.put, sa_, s0_, s1_, i64_w, i32_w]; rfl) ?_
    refine pu_ 9 (some 261) HT_ rfl rfl (.inl ⟨by rfl, by intro w'; go_simp; with_reducible rfl⟩) (by simp only [Act.put, sa_, s0_, s1_, i64_w, i32_w]; rfl) ?_
    refine pu_ 10 (some 262) HT_ rfl rfl (.inl ⟨by rfl, by intro w'; go_simp; with_reducible rfl⟩) (by simp only [Act.put, sa_, s0_, s1_, i64_w, i32_w]; rfl) ?_
    refine pu_ (v := undef) 11 (some 263) HT_ rfl rfl (.inr ⟨by rfl, rfl⟩) (by simp only [Act.put, sa_, s0_, s1_, i64_w, i32_w]; rfl) ?_
    refine pu_ (v := undef) 12 (some 264) HT_ rfl rfl (.inr ⟨by rfl, rfl⟩) (by simp only [Act.put, sa_, s0_, s1_, i64_w, i32_w]; rfl) ?_
    refine pu_ (v := undef) 13 (some 265) HT_ rfl rfl (.inr ⟨by rfl, rfl⟩) (by simp only [Act.put, sa_, s0_, s1_, i64_w, i32_w]; rfl) ?_
    refine pu_ (v := undef) 14 (some 266) HT_ rfl rfl (.inr ⟨by rfl, rfl⟩) (by simp only [Act.put, sa_, s0_, s1_, i64_w, i32_w]; rfl) ?_
    refine pu_ (v := undef) 15 (some 267) HT_ rfl rfl (.inr ⟨by rfl, rfl⟩) (by simp only [Act.put, sa_, s0_, s1_, i64_w, i32_w]; rfl) ?_
    refine pu_ (v := undef) 16 (some 268) HT_ rfl rfl (.inr ⟨by rfl, rfl⟩) (by simp only [Act.put, sa_, s0_, s1_, i64_w, i32_w]; rfl) ?_
    refine pu_ (v := undef) 17 (some 269) HT_ rfl rfl (.inr ⟨by rfl, rfl⟩) (by simp only [Act.put, sa_, s0_, s1_, i64_w, i32_w]; rfl) ?_
    refine pu_ (v := undef) 18 (some 270) HT_ rfl rfl (.inr ⟨by rfl, rfl⟩) (by simp only [Act.put, sa_, s0_, s1_, i64_w, i32_w]; rfl) ?_
    refine pu_ (v := undef) 19 (some 271) HT_ rfl rfl (.inr ⟨by rfl, rfl⟩) (by simp only [Act.put, sa_, s0_, s1_, i64_w, i32_w]; rfl) ?_
    refine pu_ (v := undef) 20 (some 272) HT_ rfl rfl (.inr ⟨by rfl, rfl⟩) (by simp only [Act.put, sa_, s0_, s1_, i64_w, i32_w]; rfl) ?_
    refine pu_ (v := undef) 21 (some 273) HT_ rfl rfl (.inr ⟨by rfl, rfl⟩) (by simp only [Act.put, sa_, s0_, s1_, i64_w, i32_w]; rfl) ?_
    refine pu_ (v := undef) 22 (some 274) HT_ rfl rfl (.inr ⟨by rfl, rfl⟩) (by simp only [Act.put, sa_, s0_, s1_, i64_w, i32_w]; rfl) ?_
    refine pu_ (v := undef) 23 (some 275) HT_ rfl rfl (.inr ⟨by rfl, rfl⟩) (by simp only [Act.put, sa_, s0_, s1_, i64_w, i32_w]; rfl) ?_
    refine pu_ (v := undef) 24 (some 276) HT_ rfl rfl (.inr ⟨by rfl, rfl⟩) (by simp only [Act.put, sa_, s0_, s1_, i64_w, i32_w]; rfl) ?_
    refine pu_ (v := undef) 25 (some 277) HT_ rfl rfl (.inr ⟨by rfl, rfl⟩) (by simp only [Act.put, sa_, s0_, s1_, i64_w, i32_w]; rfl) ?_
    refine pu_ (v := undef) 26 (some 278) HT_ rfl rfl (.inr ⟨by rfl, rfl⟩) (by simp only [Act.put, sa_, s0_, s1_, i64_w, i32_w]; rfl) ?_
    refine pu_ 27 (some 279) HT_ rfl rfl (.inl ⟨by rfl, by intro w'; go_simp; with_reducible rfl⟩) (by simp only [Act.put, sa_, s0_, s1_, i64_w, i32_w]; rfl) ?_
    refine pu_ 28 (some 280) HT_ rfl rfl (.inl ⟨by rfl, by intro w'; go_simp; with_reducible rfl⟩) (by simp only [Act.put, sa_, s0_, s1_, i64_w, i32_w]; rfl) ?_
    refine pu_ 29 (some 35) HT_ rfl rfl (.inl ⟨by rfl, by intro w'; go_simp; with_reducible rfl⟩) (by simp only [Act.put, sa_, s0_, s1_, i64_w, i32_w]; rfl) ?_
    refine done_ (done_of HT_.out (by kernel_rfl)) ?_
    try go_wp2
    go_roundg k7
    case measure => have := HJ16.out; have := HK2.out; have := HJ86.out; have := HK4.out; have := HJ204.out; have := HK6.out; have := HK7.out; omega
    case rel => exact ⟨(false), (wrap64 (x36_7 + 1)), (by first | rfl | (simp; done) | (simp [*]; done)), (by first | rfl | (simp; done) | (simp [*]; done)), H', ⟨by have := HJ16.out; have := HK2.out; have := HJ86.out; have := HK4.out; have := HJ204.out; have := HK6.out; have := HK7.out; omega⟩, (sr_ HO_z47000), (sr_ HO_z47001), (sr_ HO_z86000), (sr_ HO_z86001), (sr_ HO_z94000), (sr_ HO_z94001), (sk_ BKz46), (sk_ BKz85), (sk_ BKz93), (sB_ HB)⟩
   as_aux_lemma =>
    rw [if_pos c233] at H
    have c233b0 : (((rd_T24 tz42 x36_7).f1) == x33_4) = true := beq_iff_eq.mpr c233
    have c233b1 : (((rd_T24 tz42 x36_7).f1) != x33_4) = false := bne_eq_false_iff_eq.mpr c233
    clear c233
    by_cases c234 : 0 ≤ x34_6
    rotate_left
    ·rw [if_neg c234] at H
     exact absurd H (by simp)
    rw [if_pos c234] at H
    have c234b0 : decide (0 ≤ x34_6) = true := decide_eq_true c234
    clear c234
    by_cases c235 : x34_6 < (((rd_T24 tz42 x36_7).f2).size : Int)
    rotate_left
    ·rw [if_neg c235] at H
     exact absurd H (by simp)
    rw [if_pos c235] at H
    have c235b0 : decide (x34_6 < (((rd_T24 tz42 x36_7).f2).size : Int)) = true := decide_eq_true c235
    clear c235
    by_cases c237 : 0 ≤ x33_4
    rotate_left
    ·rw [if_neg c237] at H
     exact absurd H (by simp)
    rw [if_pos c237] at H
    have c237b0 : decide (0 ≤ x33_4) = true := decide_eq_true c237
    clear c237
    by_cases c238 : x33_4 < (tz86.length : Int)
    rotate_left
    ·rw [if_neg c238] at H
     exact absurd H (by simp)
    rw [if_pos c238] at H
    have c238b0 : decide (x33_4 < (tz86.length : Int)) = true := decide_eq_true c238
    clear c238
    by_cases c239 : x34_6 < ((rdOf ByteArray.empty tz86 x33_4).size : Int)
    rotate_left
    ·rw [if_neg c239] at H
     exact absurd H (by simp)
    rw [if_pos c239] at H
    have c239b0 : decide (x34_6 < ((rdOf ByteArray.empty tz86 x33_4).size : Int)) = true := decide_eq_true c239
    clear c239
    have H' := am H
    clear H
    have hnb241 := NBz46_z85.out
    have hnc241 := NBz85_z46.out
    have hnb242 := NBz46_z93.out
    have hnc242 := NBz93_z46.out
    obtain ⟨hcz243_0, hcz243_1⟩ := bc2 BKz46
    obtain ⟨hfz243_0, hfz243_1⟩ := bf2 BKz46
    try go_wp2
    have n0_ := am (Kd.R_drew HO_z47000.out)
    have n1_ := am (Kd.R_drew HO_z47001.out)
    have n2_ := am (Kd.R_drew HO_z86000.out)
    have n3_ := am (Kd.R_drew HO_z86001.out)
    have n4_ := am (Kd.R_drew HO_z94000.out)
    have n5_ := am (Kd.R_drew HO_z94001.out)
    have n6_ := am (blk_drew BKz46.out)
    have n7_ := am (blk_drew BKz85.out)
    have n8_ := am (blk_drew BKz93.out)
    have n9_ := am (below_drew1 HB.out)
    clear HO_z47000 HO_z47001 HO_z86000 HO_z86001 HO_z94000 HO_z94001 BKz46 BKz85 BKz93 HB; have HO_z47000 := n0_; have HO_z47001 := n1_; have HO_z86000 := n2_; have HO_z86001 := n3_; have HO_z94000 := n4_; have HO_z94001 := n5_; have BKz46 := n6_; have BKz85 := n7_; have BKz93 := n8_; have HB := n9_; clear n0_ n1_ n2_ n3_ n4_ n5_ n6_ n7_ n8_ n9_
    have pz101 : 0 ≤ (x36_7 : Int) := of_decide_eq_true (by first | (with_reducible assumption) | assumption)
    have qz101 : x36_7 < (tz42.length : Int) := of_decide_eq_true (by first | (with_reducible assumption) | assumption)
    obtain ⟨adz101, ez101, hxz101_0, hxz101_1, hxz101_2⟩ := at_T24 (Kd.R_reads' HO_z47001.out).2.2 x36_7 pz101 qz101
    cases ez101
    replace pz101 := eq_true pz101
    replace qz101 := eq_true qz101
    have pz102 : 0 ≤ (x36_7 : Int) := of_decide_eq_true (by first | (with_reducible assumption) | assumption)
    have qz102 : x36_7 < (tz42.length : Int) := of_decide_eq_true (by first | (with_reducible assumption) | assumption)
    obtain ⟨adz102, ez102, hxz102_0, hxz102_1, hxz102_2⟩ := at_T24 (Kd.R_reads' HO_z47001.out).2.2 x36_7 pz102 qz102
    obtain rfl : adz101 = adz102 := (by injection ez102)
    replace pz102 := eq_true pz102
    replace qz102 := eq_true qz102
    have p236 : 0 ≤ (x34_6 : Int) := of_decide_eq_true (by first | (with_reducible assumption) | assumption)
    have q236 : x34_6 < (((rd_T24 tz42 x36_7).f2).size : Int) := of_decide_eq_true (by first | (with_reducible assumption) | assumption)
    have hx236 := bt_at ((rd_T24 tz42 x36_7).f2) x34_6
    replace p236 := eq_true p236
    replace q236 := eq_true q236
    have pz103 : 0 ≤ (x33_4 : Int) := of_decide_eq_true (by first | (with_reducible assumption) | assumption)
    have qz103 : x33_4 < (tz86.length : Int) := of_decide_eq_true (by first | (with_reducible assumption) | assumption)
    obtain ⟨adz103, ez103, hxz103_0⟩ := Kd.at_string (Kd.R_reads' HO_z94000.out).2.2 x33_4 pz103 qz103
    obtain rfl : adz99 = adz103 := (by injection ez103)
    replace pz103 := eq_true pz103
    replace qz103 := eq_true qz103
    have p240 : 0 ≤ (x34_6 : Int) := of_decide_eq_true (by first | (with_reducible assumption) | assumption)
    have q240 : x34_6 < ((rdOf ByteArray.empty tz86 x33_4).size : Int) := of_decide_eq_true (by first | (with_reducible assumption) | assumption)
    have hx240 := bt_at (rdOf ByteArray.empty tz86 x33_4) x34_6
    replace p240 := eq_true p240
    replace q240 := eq_true q240
    refine start_ (n := 30) (S := fun w' => w'.cell? ⟨gbz46, 0, none⟩ = some (.slice (some adz100) tz39.length co50) ∧ w'.cell? ⟨gbz46, 1, none⟩ = some (.slice (some adz101) tz42.length co55) ∧ w'.cell? ⟨gbz93, 0, none⟩ = some (.slice (some adz99) tz86.length co120) ∧ w'.cell? ⟨gbz93, 1, none⟩ = some (.slice Ao126 tz89.length co126) ∧ w'.cell? (adz101.add ((x36_7).toNat * 3)) = some (.bool ((rd_T24 tz42 x36_7).f0)) ∧ w'.cell? ⟨(adz101.add ((x36_7).toNat * 3)).block, (adz101.add ((x36_7).toNat * 3)).off + 1, none⟩ = some (.int .i64 ((rd_T24 tz42 x36_7).f1)) ∧ w'.cell? ⟨(adz101.add ((x36_7).toNat * 3)).block, (adz101.add ((x36_7).toNat * 3)).off + 2, none⟩ = some (.string ((rd_T24 tz42 x36_7).f2)) ∧ w'.cell? (adz101.add ((x36_7).toNat * 3)) = some (.bool ((rd_T24 tz42 x36_7).f0)) ∧ w'.cell? ⟨(adz101.add ((x36_7).toNat * 3)).block, (adz101.add ((x36_7).toNat * 3)).off + 1, none⟩ = some (.int .i64 ((rd_T24 tz42 x36_7).f1)) ∧ w'.cell? ⟨(adz101.add ((x36_7).toNat * 3)).block, (adz101.add ((x36_7).toNat * 3)).off + 2, none⟩ = some (.string ((rd_T24 tz42 x36_7).f2)) ∧ w'.cell? (adz99.add (x33_4).toNat) = some (.string (rdOf ByteArray.empty tz86 x33_4))) (ds := []) #[false, false, false, false, false, false, false, false, false, false, false, false, false, false, false, false, false, false, false, false, false, false, false, false, false, false, false, false, false, false] (by kernel_rfl) rfl rfl ⟨(blk_cell BKz46.out 0).trans rfl, (blk_cell BKz46.out 1).trans rfl, (blk_cell BKz93.out 0).trans rfl, (blk_cell BKz93.out 1).trans rfl, hxz101_0, hxz101_1, hxz101_2, hxz102_0, hxz102_1, hxz102_2, hxz103_0⟩ (fun hHeld => ?_); refine with_tabW columbariumlaw14_DiskCrashes.tab39 columbariumlaw14_DiskCrashes.bits39 (fun HT_ HW_ => ?_)
    generalize wr.drew = w244 at HO_z47000 HO_z47001 HO_z86000 HO_z86001 HO_z94000 HO_z94001 BKz46 BKz85 BKz93 HB hxz101_0 hxz101_1 hxz101_2 hxz102_0 hxz102_1 hxz102_2 hxz103_0 hHeld ⊢
    refine pu_ 0 (some 252) HT_ rfl rfl (.inl ⟨by rfl, by intro w'; go_simp; with_reducible rfl⟩) (by simp only [Act.put, sa_, s0_, s1_, i64_w, i32_w]; rfl) ?_
    refine pu_ 1 (some 253) HT_ rfl rfl (.inl ⟨by rfl, by intro w'; go_simp; with_reducible rfl⟩) (by simp only [Act.put, sa_, s0_, s1_, i64_w, i32_w]; rfl) ?_
    refine pu_ 2 (some 254) HT_ rfl rfl (.inl ⟨by rfl, by intro w'; go_simp; with_reducible rfl⟩) (by simp only [Act.put, sa_, s0_, s1_, i64_w, i32_w]; rfl) ?_
    refine pu_ 4 (some 256) HT_ rfl rfl (.inl ⟨by rfl, by intro w'; go_simp; with_reducible rfl⟩) (by simp only [Act.put, sa_, s0_, s1_, i64_w, i32_w]; rfl) ?_
    refine pu_ 8 (some 260) HT_ rfl rfl (.inl ⟨by rfl, by intro w'; go_simp; with_reducible rfl⟩) (by simp only [Act.put, sa_, s0_, s1_, i64_w, i32_w]; rfl) ?_
    refine tk_ 3 (some 255) HT_ HW_ rfl rfl (.inl ⟨by rfl, by rintro w' ⟨s0, s1, s2, s3, s4, s5, s6, s7, s8, s9, s10⟩; go_simp; with_reducible rfl⟩) hHeld (by simp only [Act.put, sa_, s0_, s1_, i64_w, i32_w]; rfl) ?_
    refine pu_ 5 (some 257) HT_ rfl rfl (.inl ⟨by rfl, by intro w'; go_simp; with_reducible rfl⟩) (by simp only [Act.put, sa_, s0_, s1_, i64_w, i32_w]; rfl) ?_
    refine pu_ 6 (some 258) HT_ rfl rfl (.inl ⟨by rfl, by intro w'; go_simp; with_reducible rfl⟩) (by simp only [Act.put, sa_, s0_, s1_, i64_w, i32_w]; rfl) ?_
    refine tk_ 7 (some 259) HT_ HW_ rfl rfl (.inl ⟨by rfl, by rintro w' ⟨s0, s1, s2, s3, s4, s5, s6, s7, s8, s9, s10⟩; go_simp; with_reducible rfl⟩) hHeld (by simp only [Act.put, sa_, s0_, s1_, i64_w, i32_w]; rfl) ?_
    refine pu_ 9 (some 261) HT_ rfl rfl (.inl ⟨by rfl, by intro w'; go_simp; with_reducible rfl⟩) (by simp only [Act.put, sa_, s0_, s1_, i64_w, i32_w]; rfl) ?_
    refine pu_ 10 (some 262) HT_ rfl rfl (.inl ⟨by rfl, by intro w'; go_simp; with_reducible rfl⟩) (by simp only [Act.put, sa_, s0_, s1_, i64_w, i32_w]; rfl) ?_
    refine pu_ 11 (some 263) HT_ rfl rfl (.inl ⟨by rfl, by intro w'; go_simp; with_reducible rfl⟩) (by simp only [Act.put, sa_, s0_, s1_, i64_w, i32_w]; rfl) ?_
    refine pu_ 13 (some 265) HT_ rfl rfl (.inl ⟨by rfl, by intro w'; go_simp; with_reducible rfl⟩) (by simp only [Act.put, sa_, s0_, s1_, i64_w, i32_w]; rfl) ?_
    refine pu_ 17 (some 269) HT_ rfl rfl (.inl ⟨by rfl, by intro w'; go_simp; with_reducible rfl⟩) (by simp only [Act.put, sa_, s0_, s1_, i64_w, i32_w]; rfl) ?_
    refine pu_ 19 (some 271) HT_ rfl rfl (.inl ⟨by rfl, by intro w'; go_simp; with_reducible rfl⟩) (by simp only [Act.put, sa_, s0_, s1_, i64_w, i32_w]; rfl) ?_
    refine pu_ 21 (some 273) HT_ rfl rfl (.inl ⟨by rfl, by intro w'; go_simp; with_reducible rfl⟩) (by simp only [Act.put, sa_, s0_, s1_, i64_w, i32_w]; rfl) ?_
    refine pu_ 24 (some 276) HT_ rfl rfl (.inl ⟨by rfl, by intro w'; go_simp; with_reducible rfl⟩) (by simp only [Act.put, sa_, s0_, s1_, i64_w, i32_w]; rfl) ?_
    refine tk_ 12 (some 264) HT_ HW_ rfl rfl (.inl ⟨by rfl, by rintro w' ⟨s0, s1, s2, s3, s4, s5, s6, s7, s8, s9, s10⟩; go_simp; with_reducible rfl⟩) hHeld (by simp only [Act.put, sa_, s0_, s1_, i64_w, i32_w]; rfl) ?_
    refine pu_ 14 (some 266) HT_ rfl rfl (.inl ⟨by rfl, by intro w'; go_simp; with_reducible rfl⟩) (by simp only [Act.put, sa_, s0_, s1_, i64_w, i32_w]; rfl) ?_
    refine pu_ 15 (some 267) HT_ rfl rfl (.inl ⟨by rfl, by intro w'; go_simp; with_reducible rfl⟩) (by simp only [Act.put, sa_, s0_, s1_, i64_w, i32_w]; rfl) ?_
    refine tk_ 16 (some 268) HT_ HW_ rfl rfl (.inl ⟨by rfl, by rintro w' ⟨s0, s1, s2, s3, s4, s5, s6, s7, s8, s9, s10⟩; go_simp; with_reducible rfl⟩) hHeld (by simp only [Act.put, sa_, s0_, s1_, i64_w, i32_w]; rfl) ?_
    refine tk_ 18 (some 270) HT_ HW_ rfl rfl (.inl ⟨by rfl, by rintro w' ⟨s0, s1, s2, s3, s4, s5, s6, s7, s8, s9, s10⟩; go_simp; with_reducible rfl⟩) hHeld (by simp only [Act.put, sa_, s0_, s1_, i64_w, i32_w]; rfl) ?_
    refine tk_ 20 (some 272) HT_ HW_ rfl rfl (.inl ⟨by rfl, by rintro w' ⟨s0, s1, s2, s3, s4, s5, s6, s7, s8, s9, s10⟩; go_simp; with_reducible rfl⟩) hHeld (by simp only [Act.put, sa_, s0_, s1_, i64_w, i32_w]; rfl) ?_
    refine pu_ 22 (some 274) HT_ rfl rfl (.inl ⟨by rfl, by intro w'; go_simp; with_reducible rfl⟩) (by simp only [Act.put, sa_, s0_, s1_, i64_w, i32_w]; rfl) ?_
    refine tk_ 23 (some 275) HT_ HW_ rfl rfl (.inl ⟨by rfl, by rintro w' ⟨s0, s1, s2, s3, s4, s5, s6, s7, s8, s9, s10⟩; go_simp; with_reducible rfl⟩) hHeld (by simp only [Act.put, sa_, s0_, s1_, i64_w, i32_w]; rfl) ?_
    refine tk_ 25 (some 277) HT_ HW_ rfl rfl (.inl ⟨by rfl, by rintro w' ⟨s0, s1, s2, s3, s4, s5, s6, s7, s8, s9, s10⟩; go_simp; with_reducible rfl⟩) hHeld (by simp only [Act.put, sa_, s0_, s1_, i64_w, i32_w]; rfl) ?_
    refine pu_ 26 (some 278) HT_ rfl rfl (.inl ⟨by rfl, by intro w'; go_simp; with_reducible rfl⟩) (by simp only [Act.put, sa_, s0_, s1_, i64_w, i32_w]; rfl) ?_
    refine pu_ 27 (some 279) HT_ rfl rfl (.inl ⟨by rfl, by intro w'; go_simp; with_reducible rfl⟩) (by simp only [Act.put, sa_, s0_, s1_, i64_w, i32_w]; rfl) ?_
    refine pu_ 28 (some 280) HT_ rfl rfl (.inl ⟨by rfl, by intro w'; go_simp; with_reducible rfl⟩) (by simp only [Act.put, sa_, s0_, s1_, i64_w, i32_w]; rfl) ?_
    refine pu_ 29 (some 35) HT_ rfl rfl (.inl ⟨by rfl, by intro w'; go_simp; with_reducible rfl⟩) (by simp only [Act.put, sa_, s0_, s1_, i64_w, i32_w]; rfl) ?_
    refine done_ (done_of HT_.out (by kernel_rfl)) ?_
    try go_wp2
    go_roundg k7
    case measure => have := HJ16.out; have := HK2.out; have := HJ86.out; have := HK4.out; have := HJ204.out; have := HK6.out; have := HK7.out; omega
    case rel => exact ⟨(((bt ((rd_T24 tz42 x36_7).f2) x34_6) == (bt (rdOf ByteArray.empty tz86 x33_4) x34_6))), (wrap64 (x36_7 + 1)), (by first | rfl | (simp; done) | (simp [*]; done)), (by first | rfl | (simp; done) | (simp [*]; done)), H', ⟨by have := HJ16.out; have := HK2.out; have := HJ86.out; have := HK4.out; have := HJ204.out; have := HK6.out; have := HK7.out; omega⟩, (sr_ HO_z47000), (sr_ HO_z47001), (sr_ HO_z86000), (sr_ HO_z86001), (sr_ HO_z94000), (sr_ HO_z94001), (sk_ BKz46), (sk_ BKz85), (sk_ BKz93), (sB_ HB)⟩

end Go.Proofs.Ytcfinlmocgbnbaa.Pr
