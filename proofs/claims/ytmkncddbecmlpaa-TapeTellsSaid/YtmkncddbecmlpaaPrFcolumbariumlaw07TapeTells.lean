-- Written by wip/tools/xprint.py, a patched run of the kit's print: not typed by hand.
import Derived.Test.YtmkncddbecmlpaaPr0
import Derived.Test.YtmkncddbecmlpaaPrE0
import Derived.Test.YtmkncddbecmlpaaPrFcolumbariumlaw07Tape
import Derived.Test.YtmkncddbecmlpaaPrFcolumbariumlaw07awake
import Derived.Test.YtmkncddbecmlpaaPrFcolumbariumlaw07pick
import Derived.Test.YtmkncddbecmlpaaPrFcolumbariumref07Ints
import Derived.Test.YtmkncddbecmlpaaPrFcolumbariumref07Left
import Derived.Test.YtmkncddbecmlpaaPrFcolumbariumref07Number
import Derived.Test.YtmkncddbecmlpaaPrFcolumbariumref07Right
import Derived.Test.YtmkncddbecmlpaaPrFcolumbariumref07Take
import Derived.Test.YtmkncddbecmlpaaPrFcolumbariumref07Turn
import Derived.Test.YtmkncddbecmlpaaPrFtapeLeft
import Derived.Test.YtmkncddbecmlpaaPrFtapeNumber
import Derived.Test.YtmkncddbecmlpaaPrFtapeRight
import Derived.Test.YtmkncddbecmlpaaPrFtapeTake
import Derived.Test.YtmkncddbecmlpaaPrFtapeTurn
namespace Go.Proofs.Ytmkncddbecmlpaa.Pr
open Go.RowKit Go.Proofs.YtmkncddbecmlpaaW.PrintWords Go.Proofs.YtmkncddbecmlpaaW.PrintLast Go.Proofs.YtmkncddbecmlpaaW.PrintMore
attribute [local go_sem] max2_int min2_int max_two min_two max_three min_three max_four min_four   -- for this text's walks alone
set_option linter.unusedVariables false
set_option linter.unusedSimpArgs false

attribute [local go_sem high] eqA23
/-! ### columbariumlaw07_TapeTells: function 3 -/
mutual
def columbariumlaw07_TapeTells.l0 : Nat → ByteArray → Int → Int → Bool → List Int → List (S23) → Int → Int → Option (Bool)
 | 0, _, _, _, _, _, _, _, _ => none
 | k + 1, x0, x1, x3, x11, x12, x48, x49, x50 => if x50 < x49 then (if 0 ≤ x50 then (if x50 < (x48.length : Int) then (if (((rd_T23 x48 x50).f0).size : Int) > 500 then (columbariumlaw07_TapeTells.l0 k x0 x1 x3 x11 x12 x48 x49 (wrap64 (x50 + 1))) else ((tape_Right.f ((rd_T23 x48 x50).f0) ((rd_T23 x48 x50).f1)).bind fun t30023 => ((columbariumref07_Right.f ((rd_T23 x48 x50).f0) ((rd_T23 x48 x50).f1)).bind fun t30024 => (if (t30023 != t30024) = true then (columbariumlaw07_TapeTells.j1 k x0 x1 x3 x11 x12 x48 x49 x50 true ((rd_T23 x48 x50).f0) ((rd_T23 x48 x50).f1)) else ((tape_Left.f ((rd_T23 x48 x50).f0) ((rd_T23 x48 x50).f1)).bind fun t30025 => ((columbariumref07_Left.f ((rd_T23 x48 x50).f0) ((rd_T23 x48 x50).f1)).bind fun t30026 => (columbariumlaw07_TapeTells.j1 k x0 x1 x3 x11 x12 x48 x49 x50 (t30025 != t30026) ((rd_T23 x48 x50).f0) ((rd_T23 x48 x50).f1)))))))) else (none)) else (none)) else ((columbariumlaw07_Tape.f x0 x1).bind fun bt30009 => (if 1001 ≤ 35184372088832 then ((tape_Turn.f bt30009.1 bt30009.2 (List.replicate 1001 0)).bind fun bt30014 => (if x11 = true then (some (bt30014.2.2.2 == 2)) else (none))) else (none)))
def columbariumlaw07_TapeTells.j1 : Nat → ByteArray → Int → Int → Bool → List Int → List (S23) → Int → Int → Bool → ByteArray → Int → Option (Bool)
 | 0, _, _, _, _, _, _, _, _, _, _, _ => none
 | k + 1, x0, x1, x3, x11, x12, x48, x49, x50, x69, x30023000, x30023001 => if x69 = true then (none) else ((columbariumlaw07_pick.f x3 9).bind fun t30027 => ((some (([x3, t30027] : List Int) : List Int)).bind fun y30028 => (columbariumlaw07_TapeTells.l1 k x0 x1 x3 x11 x12 x48 x49 x50 y30028 (y30028.length : Int) 0 x30023000 x30023001)))
def columbariumlaw07_TapeTells.l1 : Nat → ByteArray → Int → Int → Bool → List Int → List (S23) → Int → Int → List Int → Int → Int → ByteArray → Int → Option (Bool)
 | 0, _, _, _, _, _, _, _, _, _, _, _, _, _ => none
 | k + 1, x0, x1, x3, x11, x12, x48, x49, x50, x73, x74, x75, x30023000, x30023001 => if x75 < x74 then (if 0 ≤ x75 then (if x75 < (x73.length : Int) then ((tape_Take.f k x30023000 x30023001 (rd x73 x75)).bind fun bt30032 => ((columbariumref07_Take.f k x30023000 x30023001 (rd x73 x75)).bind fun bt30037 => ((tape_Number.f k x30023000 x30023001 (rd x73 x75)).bind fun bt30042 => ((columbariumref07_Number.f k x30023000 x30023001 (rd x73 x75)).bind fun bt30047 => (if bt30032.1.toList = bt30037.1.toList then (if (!(bt30032.2.1.toList == bt30037.2.1.toList) || (!(bt30032.2.2.1 == bt30037.2.2.1))) = true then (none) else (if bt30032.2.2.2 = bt30037.2.2.2 then (if bt30042.1 = bt30047.1 then (if (!(bt30042.2.1.toList == bt30047.2.1.toList) || (!(bt30042.2.2.1 == bt30047.2.2.1))) = true then (none) else (if bt30042.2.2.2 = bt30047.2.2.2 then (columbariumlaw07_TapeTells.l1 k x0 x1 x3 x11 x12 x48 x49 x50 x73 x74 (wrap64 (x75 + 1)) x30023000 x30023001) else (none))) else (none)) else (none))) else (none)))))) else (none)) else (none)) else ((tape_Turn.f x30023000 x30023001 x12).bind fun bt30052 => ((columbariumref07_Turn.f k x30023000 x30023001 x12).bind fun bt30059 => ((columbariumref07_Ints.f k bt30052.1 bt30059.1).bind fun t30066 => (if t30066 = true then (if (!(bt30052.2.1.toList == bt30059.2.1.toList) || (!(bt30052.2.2.1 == bt30059.2.2.1))) = true then (none) else (if bt30052.2.2.2 = bt30059.2.2.2 then (columbariumlaw07_TapeTells.l0 k x0 x1 x3 x11 x12 x48 x49 (wrap64 (x50 + 1))) else (none))) else (none)))))
end
def columbariumlaw07_TapeTells.f (k : Nat) (a0 : ByteArray) (a1 : Int) (a2_0 : ByteArray) (a2_1 : Int) (a3 : Int) (l4 : List Int) : Option (Bool) := (columbariumlaw07_awake.f k).bind fun t30002 => (if 0 ≤ (mn (l4.length : Int) 60) then (if (mn (l4.length : Int) 60) ≤ (l4.length : Int) then ((columbariumlaw07_Tape.f a0 a1).bind fun bt30004 => ((some (([(⟨bt30004.1, bt30004.2⟩ : S23), (⟨a2_0, a2_1⟩ : S23)] : List (S23)) : List (S23))).bind fun y30006 => (columbariumlaw07_TapeTells.l0 k a0 a1 a3 t30002 (l4.take ((mn (l4.length : Int) 60) : Int).toNat) y30006 (y30006.length : Int) 0))) else (none)) else (none))
theorem columbariumlaw07_TapeTells.mono_l : ∀ k, (∀ y0 y1 y2 y3 y4 y5 y6 y7, LeO (columbariumlaw07_TapeTells.l0 k y0 y1 y2 y3 y4 y5 y6 y7) (columbariumlaw07_TapeTells.l0 (k + 1) y0 y1 y2 y3 y4 y5 y6 y7)) ∧ (∀ y0 y1 y2 y3 y4 y5 y6 y7 y8 y9 y10, LeO (columbariumlaw07_TapeTells.j1 k y0 y1 y2 y3 y4 y5 y6 y7 y8 y9 y10) (columbariumlaw07_TapeTells.j1 (k + 1) y0 y1 y2 y3 y4 y5 y6 y7 y8 y9 y10)) ∧ (∀ y0 y1 y2 y3 y4 y5 y6 y7 y8 y9 y10 y11 y12, LeO (columbariumlaw07_TapeTells.l1 k y0 y1 y2 y3 y4 y5 y6 y7 y8 y9 y10 y11 y12) (columbariumlaw07_TapeTells.l1 (k + 1) y0 y1 y2 y3 y4 y5 y6 y7 y8 y9 y10 y11 y12))
 | 0 => ⟨fun _ _ _ _ _ _ _ _ r h => by simp [columbariumlaw07_TapeTells.l0] at h, fun _ _ _ _ _ _ _ _ _ _ _ r h => by simp [columbariumlaw07_TapeTells.j1] at h, fun _ _ _ _ _ _ _ _ _ _ _ _ _ r h => by simp [columbariumlaw07_TapeTells.l1] at h⟩
 | k + 1 => by
  obtain ⟨ih0, ih1, ih2⟩ := columbariumlaw07_TapeTells.mono_l k
  refine ⟨?_, ?_, ?_⟩
  ·intro y0 y1 y2 y3 y4 y5 y6 y7
   unfold columbariumlaw07_TapeTells.l0
   repeat' first
   | (with_reducible exact ih0 _ _ _ _ _ _ _ _)
   | (with_reducible exact ih1 _ _ _ _ _ _ _ _ _ _ _)
   | (with_reducible exact ih2 _ _ _ _ _ _ _ _ _ _ _ _ _)
   | (with_reducible exact columbariumlaw07_awake.mono _)
   | (with_reducible exact columbariumref07_Ints.mono _ _ _)
   | (with_reducible exact columbariumref07_Number.mono _ _ _ _)
   | (with_reducible exact columbariumref07_Take.mono _ _ _ _)
   | (with_reducible exact columbariumref07_Turn.mono _ _ _ _)
   | (with_reducible exact tape_Number.mono _ _ _ _)
   | (with_reducible exact tape_Take.mono _ _ _ _)
   | (with_reducible exact LeO.refl _)
   | (with_reducible exact LeO.none _)
   | (with_reducible refine LeO.ite ?_ ?_)
   | (with_reducible refine LeO.bind ?_ (fun _ => ?_))
   | exact ih0 _ _ _ _ _ _ _ _
   | exact ih1 _ _ _ _ _ _ _ _ _ _ _
   | exact ih2 _ _ _ _ _ _ _ _ _ _ _ _ _
   | exact columbariumlaw07_awake.mono _
   | exact columbariumref07_Ints.mono _ _ _
   | exact columbariumref07_Number.mono _ _ _ _
   | exact columbariumref07_Take.mono _ _ _ _
   | exact columbariumref07_Turn.mono _ _ _ _
   | exact tape_Number.mono _ _ _ _
   | exact tape_Take.mono _ _ _ _
   | exact LeO.none _
   | refine LeO.ite ?_ ?_
   | refine LeO.bind ?_ (fun _ => ?_)
  ·intro y0 y1 y2 y3 y4 y5 y6 y7 y8 y9 y10
   unfold columbariumlaw07_TapeTells.j1
   repeat' first
   | (with_reducible exact ih0 _ _ _ _ _ _ _ _)
   | (with_reducible exact ih1 _ _ _ _ _ _ _ _ _ _ _)
   | (with_reducible exact ih2 _ _ _ _ _ _ _ _ _ _ _ _ _)
   | (with_reducible exact columbariumlaw07_awake.mono _)
   | (with_reducible exact columbariumref07_Ints.mono _ _ _)
   | (with_reducible exact columbariumref07_Number.mono _ _ _ _)
   | (with_reducible exact columbariumref07_Take.mono _ _ _ _)
   | (with_reducible exact columbariumref07_Turn.mono _ _ _ _)
   | (with_reducible exact tape_Number.mono _ _ _ _)
   | (with_reducible exact tape_Take.mono _ _ _ _)
   | (with_reducible exact LeO.refl _)
   | (with_reducible exact LeO.none _)
   | (with_reducible refine LeO.ite ?_ ?_)
   | (with_reducible refine LeO.bind ?_ (fun _ => ?_))
   | exact ih0 _ _ _ _ _ _ _ _
   | exact ih1 _ _ _ _ _ _ _ _ _ _ _
   | exact ih2 _ _ _ _ _ _ _ _ _ _ _ _ _
   | exact columbariumlaw07_awake.mono _
   | exact columbariumref07_Ints.mono _ _ _
   | exact columbariumref07_Number.mono _ _ _ _
   | exact columbariumref07_Take.mono _ _ _ _
   | exact columbariumref07_Turn.mono _ _ _ _
   | exact tape_Number.mono _ _ _ _
   | exact tape_Take.mono _ _ _ _
   | exact LeO.none _
   | refine LeO.ite ?_ ?_
   | refine LeO.bind ?_ (fun _ => ?_)
  ·intro y0 y1 y2 y3 y4 y5 y6 y7 y8 y9 y10 y11 y12
   unfold columbariumlaw07_TapeTells.l1
   repeat' first
   | (with_reducible exact ih0 _ _ _ _ _ _ _ _)
   | (with_reducible exact ih1 _ _ _ _ _ _ _ _ _ _ _)
   | (with_reducible exact ih2 _ _ _ _ _ _ _ _ _ _ _ _ _)
   | (with_reducible exact columbariumlaw07_awake.mono _)
   | (with_reducible exact columbariumref07_Ints.mono _ _ _)
   | (with_reducible exact columbariumref07_Number.mono _ _ _ _)
   | (with_reducible exact columbariumref07_Take.mono _ _ _ _)
   | (with_reducible exact columbariumref07_Turn.mono _ _ _ _)
   | (with_reducible exact tape_Number.mono _ _ _ _)
   | (with_reducible exact tape_Take.mono _ _ _ _)
   | (with_reducible exact LeO.refl _)
   | (with_reducible exact LeO.none _)
   | (with_reducible refine LeO.ite ?_ ?_)
   | (with_reducible refine LeO.bind ?_ (fun _ => ?_))
   | exact ih0 _ _ _ _ _ _ _ _
   | exact ih1 _ _ _ _ _ _ _ _ _ _ _
   | exact ih2 _ _ _ _ _ _ _ _ _ _ _ _ _
   | exact columbariumlaw07_awake.mono _
   | exact columbariumref07_Ints.mono _ _ _
   | exact columbariumref07_Number.mono _ _ _ _
   | exact columbariumref07_Take.mono _ _ _ _
   | exact columbariumref07_Turn.mono _ _ _ _
   | exact tape_Number.mono _ _ _ _
   | exact tape_Take.mono _ _ _ _
   | exact LeO.none _
   | refine LeO.ite ?_ ?_
   | refine LeO.bind ?_ (fun _ => ?_)
theorem columbariumlaw07_TapeTells.mono : ∀ a0 a1 a2 a3 a4 a5 k, LeO (columbariumlaw07_TapeTells.f k a0 a1 a2 a3 a4 a5) (columbariumlaw07_TapeTells.f (k + 1) a0 a1 a2 a3 a4 a5) := by
 intro a0 a1 a2 a3 a4 a5 k
 obtain ⟨ih0, ih1, ih2⟩ := columbariumlaw07_TapeTells.mono_l k
 unfold columbariumlaw07_TapeTells.f
 repeat' first
   | (with_reducible exact ih0 _ _ _ _ _ _ _ _)
   | (with_reducible exact ih1 _ _ _ _ _ _ _ _ _ _ _)
   | (with_reducible exact ih2 _ _ _ _ _ _ _ _ _ _ _ _ _)
   | (with_reducible exact columbariumlaw07_awake.mono _)
   | (with_reducible exact columbariumref07_Ints.mono _ _ _)
   | (with_reducible exact columbariumref07_Number.mono _ _ _ _)
   | (with_reducible exact columbariumref07_Take.mono _ _ _ _)
   | (with_reducible exact columbariumref07_Turn.mono _ _ _ _)
   | (with_reducible exact tape_Number.mono _ _ _ _)
   | (with_reducible exact tape_Take.mono _ _ _ _)
   | (with_reducible exact LeO.refl _)
   | (with_reducible exact LeO.none _)
   | (with_reducible refine LeO.ite ?_ ?_)
   | (with_reducible refine LeO.bind ?_ (fun _ => ?_))
   | exact ih0 _ _ _ _ _ _ _ _
   | exact ih1 _ _ _ _ _ _ _ _ _ _ _
   | exact ih2 _ _ _ _ _ _ _ _ _ _ _ _ _
   | exact columbariumlaw07_awake.mono _
   | exact columbariumref07_Ints.mono _ _ _
   | exact columbariumref07_Number.mono _ _ _ _
   | exact columbariumref07_Take.mono _ _ _ _
   | exact columbariumref07_Turn.mono _ _ _ _
   | exact tape_Number.mono _ _ _ _
   | exact tape_Take.mono _ _ _ _
   | exact LeO.none _
   | refine LeO.ite ?_ ?_
   | refine LeO.bind ?_ (fun _ => ?_)
def columbariumlaw07_TapeTells.T7 : Bool × List (List Nat × List Nat) := (true, [([], []), ([0], [0]), ([], []), ([2, 1], [2]), ([1, 3], [1, 3]), ([4, 3], [4]), ([5], [5]), ([6, 5, 5], [5, 6]), ([5], [5]), ([8, 7, 5], [5, 8]), ([7, 9, 5], [5, 7, 9]), ([5, 10], [5, 10])])
def columbariumlaw07_TapeTells.B7 : List Nat := [0, 1, 0, 7, 15, 31, 63, 127, 63, 511, 1023, 2047]
theorem columbariumlaw07_TapeTells.tab7 : rtab .any (opsOf Try.f3 7) = columbariumlaw07_TapeTells.T7 := by kernel_rfl
theorem columbariumlaw07_TapeTells.bits7 : waitsOk columbariumlaw07_TapeTells.T7.2 columbariumlaw07_TapeTells.B7 = true := by kernel_rfl
def columbariumlaw07_TapeTells.T24 : Bool × List (List Nat × List Nat) := (true, [([], []), ([], []), ([0, 1], [0, 1]), ([], []), ([2, 3, 2], [2, 3]), ([4], [4]), ([5], [5]), ([5], [5]), ([5], [5]), ([], []), ([6, 4, 0, 1, 2, 3, 4, 5, 6, 9], [6]), ([9, 7, 10, 0, 1, 2, 3, 4, 5, 6, 7, 9, 10], [7, 9]), ([8, 11, 0, 1, 2, 3, 4, 5, 6, 7, 8, 9, 10, 11], [8])])
def columbariumlaw07_TapeTells.B24 : List Nat := [0, 0, 3, 0, 15, 31, 63, 63, 63, 0, 639, 1791, 4095]
theorem columbariumlaw07_TapeTells.tab24 : rtab .any (opsOf Try.f3 24) = columbariumlaw07_TapeTells.T24 := by kernel_rfl
theorem columbariumlaw07_TapeTells.bits24 : waitsOk columbariumlaw07_TapeTells.T24.2 columbariumlaw07_TapeTells.B24 = true := by kernel_rfl
set_option maxHeartbeats 8000000 in
set_option maxRecDepth 100000 in
theorem columbariumlaw07_TapeTells.calls (k : Nat) (a0 : ByteArray) (a1 : Int) (a2_0 : ByteArray) (a2_1 : Int) (a3 : Int) (A4 : Option Addr) (c4 : Nat) (l4 : List Int) (r : Bool) (w : World) (hr4 : Kd.C (Kd.int .i64) w A4 l4.length l4) (hc4 : l4.length ≤ c4) (h : columbariumlaw07_TapeTells.f k a0 a1 a2_0 a2_1 a3 l4 = some r) :
  Calls Try.prog 3 #[.string a0, .int .i64 a1, .agg #[.string a2_0, .int .i64 a2_1], .int .i64 a3, .slice A4 l4.length c4] w fun e w' => e = .returned (.bool r) ∧ Below w.heap.size w w' := by
 have hu23 := Try.underlying23
 have HR4 := Aside0.mk hr4
 have HC4 := Aside0.mk hc4
 clear hr4 hc4
 have HB := Aside0.mk (Below.refl w.heap.size w)
 have H : ((columbariumlaw07_awake.f k).bind fun t30002 => (if 0 ≤ (mn (l4.length : Int) 60) then (if (mn (l4.length : Int) 60) ≤ (l4.length : Int) then ((columbariumlaw07_Tape.f a0 a1).bind fun bt30004 => ((some (([(⟨bt30004.1, bt30004.2⟩ : S23), (⟨a2_0, a2_1⟩ : S23)] : List (S23)) : List (S23))).bind fun y30006 => (columbariumlaw07_TapeTells.l0 k a0 a1 a3 t30002 (l4.take ((mn (l4.length : Int) 60) : Int).toNat) y30006 (y30006.length : Int) 0))) else (none)) else (none))) = some r := h
 clear h
 replace H := Option.bind_eq_some_iff.mp H
 obtain ⟨t30002, A60, H⟩ := H
 replace H : (if 0 ≤ (mn (l4.length : Int) 60) then (if (mn (l4.length : Int) 60) ≤ (l4.length : Int) then ((columbariumlaw07_Tape.f a0 a1).bind fun bt30004 => ((some (([(⟨bt30004.1, bt30004.2⟩ : S23), (⟨a2_0, a2_1⟩ : S23)] : List (S23)) : List (S23))).bind fun y30006 => (columbariumlaw07_TapeTells.l0 k a0 a1 a3 t30002 (l4.take ((mn (l4.length : Int) 60) : Int).toNat) y30006 (y30006.length : Int) 0))) else (none)) else (none)) = some r := H
 have A6 := Aside0.mk A60
 clear A60
 obtain ⟨ji7, hji7⟩ : ∃ j_ : Int, (mn (l4.length : Int) 60) = j_ := ⟨_, rfl⟩
 replace H : (if 0 ≤ (ji7) then (if (ji7) ≤ (l4.length : Int) then ((columbariumlaw07_Tape.f a0 a1).bind fun bt30004 => ((some (([(⟨bt30004.1, bt30004.2⟩ : S23), (⟨a2_0, a2_1⟩ : S23)] : List (S23)) : List (S23))).bind fun y30006 => (columbariumlaw07_TapeTells.l0 k a0 a1 a3 t30002 (l4.take ((ji7) : Int).toNat) y30006 (y30006.length : Int) 0))) else (none)) else (none)) = some r := by first | (rw [hji7] at H; exact H) | (simp only [hji7] at H ⊢; exact H)
 (try rw [hji7] at A6)
 (try (have hji7h : ji7 ≤ 60 := by (rw [← hji7]; unfold mn; (repeat' split) <;> omega)))
 (try (have hji7g : ji7 ≤ 64 := by omega))
 (try (have hji7l : 0 ≤ ji7 := by (rw [← hji7]; unfold mn; (repeat' split) <;> omega)))
 (try (have hji7m : 0 ≤ ji7 := by omega))
 have hji7_ : (if 60 < (l4.length : Int) then 60 else (l4.length : Int)) = ji7 := hji7
 by_cases c8 : 0 ≤ (ji7)
 ·rw [if_pos c8] at H
  have c8b0 := eq_true c8
  have c8b1 : decide (0 ≤ (ji7)) = true := decide_eq_true c8
  clear c8
  by_cases c9 : (ji7) ≤ (l4.length : Int)
  ·rw [if_pos c9] at H
   have c9b0 := eq_true c9
   have c9b1 : decide ((ji7) ≤ (l4.length : Int)) = true := decide_eq_true c9
   clear c9
   replace H := Option.bind_eq_some_iff.mp H
   obtain ⟨⟨t30004, t30005⟩, A100, H⟩ := H
   replace H : ((some (([(⟨t30004, t30005⟩ : S23), (⟨a2_0, a2_1⟩ : S23)] : List (S23)) : List (S23))).bind fun y30006 => (columbariumlaw07_TapeTells.l0 k a0 a1 a3 t30002 (l4.take ((ji7) : Int).toNat) y30006 (y30006.length : Int) 0)) = some r := H
   have A10 := Aside0.mk A100
   clear A100
   obtain ⟨y30006, hy30006⟩ : ∃ y_ : List (S23), y_ = (([(⟨t30004, t30005⟩ : S23), (⟨a2_0, a2_1⟩ : S23)] : List (S23))) := ⟨_, rfl⟩
   replace H : (columbariumlaw07_TapeTells.l0 k a0 a1 a3 t30002 (l4.take ((ji7) : Int).toNat) y30006 (y30006.length : Int) 0) = some r := by first | (rw [hy30006]; with_reducible exact H) | (have H2_ := (Option.bind_some _ _).symm.trans H; rw [hy30006]; with_reducible exact H2_) | (have H2_ := (Option.bind_some _ _).symm.trans H; with_reducible exact H2_) | with_reducible exact H | (rw [hy30006]; exact H) | exact H
   have Ny30006 := Aside0.mk hy30006
   clear hy30006
   have H' := Aside0.mk H
   clear H
   go_enter Try.func3, Try.ntmps3
   try go_wp2_with (first | ((with_reducible refine gate_dst (N := 7) rfl ?_); refine box_event ?hg (N := 7) ?hd (cs := #[.string a2_0, .int .i64 a2_1]) (t := 23) ?hr ?_; (case hd => rfl); (case hg => rfl); (case hr => first | (go_simp; done) | (go_simp; rfl)); intro gb30001 hg w11 hbox hb; have n0_ := Aside0.mk (below_step (by repeat (first | (with_reducible first | exact HB.out | apply below_alloc | apply pw_below_drewN | apply below_drew1) | exact HB.out)) hb); have n1_ := Aside0.mk (hbox); have n2_ := Aside0.mk ((by rw [hg]; exact (below_size (by repeat (first | (with_reducible first | exact HB.out | apply below_alloc | apply pw_below_drewN | apply below_drew1) | exact HB.out))) : w.heap.size ≤ gb30001)); have n3_ := Aside0.mk ((by rw [hg]; exact (below_size (by repeat (first | (with_reducible first | exact HB.out | apply below_alloc | apply pw_below_drewN | apply below_drew1) | exact HB.out))) : w.heap.size ≤ gb30001)); clear HB; have HB := n0_; have BK30001 := n1_; have GW30001 := n2_; have GE30001 := n3_; clear n0_ n1_ n2_ n3_; clear hb hbox hg) | ((with_reducible refine gate_callee (f := 14) rfl ?_); refine goesL_ (some 38) rfl rfl Try.func14 (by kernel_rfl) rfl #[] rfl (by (try simp only [List.map_toArray, List.map_cons, List.map_nil]); first | done | rfl | (simp only [List.length_drop, List.length_take]; rfl)) ?_; (with_reducible refine (columbariumlaw07_awake.calls k  t30002 _ A6.out).mono ?_); rintro e w12 ⟨rfl, hb⟩; refine ⟨_, rfl, ?_⟩; have n0_ := Aside0.mk (blk_below (g := gb30001) (o := .cells #[.string a2_0, .int .i64 a2_1] 23 (0, 0)) (by (with_reducible repeat (first | refine blk_drewN ?_ _ | refine blk_drew ?_ | refine blk_alloc ?_ _)); exact BK30001.out) hb); have n1_ := Aside0.mk (below_step (by repeat (first | (with_reducible first | exact HB.out | apply below_alloc | apply pw_below_drewN | apply below_drew1 | refine below_set ?_ GE30001.out) | exact HB.out)) hb); clear BK30001; clear HB; have BK30001 := n0_; have HB := n1_; clear n0_ n1_; (try clear hb); (try clear hb2); (try clear hk); (try clear hi); obtain ⟨i013, hi013, _, hsz13, _⟩ := info_parts info3; obtain ⟨hcut13, hA13, hC13⟩ := print_take_of (P := Try.prog) (Value.int .i64) 0 24 3 .i64 Try.underlying24 hi013 hsz13 A4 c4 l4 (ji7) (of_decide_eq_true (by first | (with_reducible assumption) | assumption)) (of_decide_eq_true (by first | (with_reducible assumption) | assumption)) HC4.out; have HR30003 := Aside0.mk (Kd.C_of_reads (h1 := fun _ => rfl) (hA13 _ (Kd.reads_of_C HR4.out))); have HC30003 := Aside0.mk hC13; clear hA13 hC13 hi013 hsz13))
   have n0_ := Aside0.mk (blk_drew BK30001.out)
   have n1_ := Aside0.mk (below_drew1 HB.out)
   clear BK30001
   clear HB
   have BK30001 := n0_
   have HB := n1_
   clear n0_ n1_
   refine start_ (n := 7) (S := fun w' => w'.cell? ⟨gb30001, 0, none⟩ = some (.string a2_0) ∧ w'.cell? ⟨gb30001, 1, none⟩ = some (.int .i64 a2_1)) (ds := []) #[false, false, false, false, false, false, false] (by kernel_rfl) rfl rfl ⟨(blk_cell BK30001.out 0).trans rfl, (blk_cell BK30001.out 1).trans rfl⟩ (fun hHeld => ?_)
   generalize w12.drew = w14 at BK30001 HB hHeld ⊢
   refine pure_ (i := 0) (N := some 44) (v := ?_) (a' := ?_) #[true, false, false, false, false, false, false] rfl rfl (by kernel_rfl) (fun _ _ _ h => h) (Or.inl ⟨by rfl, ?_⟩) ?_ ?_
   rotate_left
   ·intro w'
    go_simp
    with_reducible rfl
   rotate_left
   ·simp only [Act.put, List.setIfInBounds_toArray, List.set_cons_zero, List.set_cons_succ, i64_w, i32_w]
    rfl
   refine pure_ (i := 1) (N := some 45) (v := ?_) (a' := ?_) #[true, true, false, false, false, false, false] rfl rfl (by kernel_rfl) (fun _ _ _ h => h) (Or.inl ⟨by rfl, ?_⟩) ?_ ?_
   rotate_left
   ·intro w'
    go_simp
    with_reducible rfl
   rotate_left
   ·simp only [Act.put, List.setIfInBounds_toArray, List.set_cons_zero, List.set_cons_succ, i64_w, i32_w]
    rfl
   refine pure_ (i := 6) (N := some 50) (v := ?_) (a' := ?_) #[true, true, false, false, false, false, true] rfl rfl (by kernel_rfl) (fun _ _ _ h => h) (Or.inl ⟨by rfl, ?_⟩) ?_ ?_
   rotate_left
   ·intro w'
    go_simp
    with_reducible rfl
   rotate_left
   ·simp only [Act.put, List.setIfInBounds_toArray, List.set_cons_zero, List.set_cons_succ, i64_w, i32_w]
    rfl
   refine take_ (i := 3) (N := some 47) (v := ?_) (a' := ?_) #[true, true, false, true, false, false, true] rfl rfl (by kernel_rfl) (fun _ _ _ h => h) (Or.inl ⟨by rfl, ?_⟩) hHeld ?_ ?_
   rotate_left
   ·rintro w' ⟨s0, s1⟩
    go_simp
    with_reducible rfl
   rotate_left
   ·simp only [Act.put, List.setIfInBounds_toArray, List.set_cons_zero, List.set_cons_succ, i64_w, i32_w]
    rfl
   refine one_ (i := 2) (N := some 46) #[true, true, true, true, false, false, true] rfl rfl (by kernel_rfl) (by decide) (fun K hK => ?_)
   refine goes_ Try.func15 (by kernel_rfl) rfl #[.string a0, .int .i64 a1] (by rfl) rfl rfl (by (try simp only [List.map_toArray, List.map_cons, List.map_nil]); first | done | rfl | (simp only [List.length_drop, List.length_take]; rfl)) ?_
   with_reducible refine (columbariumlaw07_Tape.calls a0 a1 t30004 t30005 _ A10.out).mono ?_
   rintro e w15 ⟨rfl, hb⟩
   refine ⟨_, rfl, ?_⟩
   have n0_ := Aside0.mk (blk_below (g := gb30001) (o := .cells #[.string a2_0, .int .i64 a2_1] 23 (0, 0)) (by (with_reducible repeat (first | refine blk_drewN ?_ _ | refine blk_drew ?_ | refine blk_alloc ?_ _)); exact BK30001.out) hb)
   have n1_ := Aside0.mk (below_step (by repeat (first | (with_reducible first | exact HB.out | apply below_alloc | apply pw_below_drewN | apply below_drew1 | refine below_set ?_ GE30001.out) | exact HB.out)) hb)
   clear BK30001
   clear HB
   have BK30001 := n0_
   have HB := n1_
   clear n0_ n1_
   (try clear hb)
   (try clear hb2)
   (try clear hk)
   (try clear hi)
   refine hK.out _ _ ⟨(blk_cell BK30001.out 0).trans rfl, (blk_cell BK30001.out 1).trans rfl⟩ (fun hHeld => ?_)
   clear hK K
   refine norm_ (a' := ?_) ?_ ?_
   rotate_left
   ·show Act.put _ (some 46) _ = _
    simp only [Act.put, List.setIfInBounds_toArray, List.set_cons_zero, List.set_cons_succ, i64_w, i32_w]
    rfl
   refine one_ (i := 4) (N := some 48) #[true, true, true, true, true, false, true] rfl rfl (by kernel_rfl) (by decide) (fun K hK => ?_)
   refine Kd.R_lit_step k23 _ 23 ?hg (N := 48) ?hd (xs := ([(⟨t30004, t30005⟩ : S23), (⟨a2_0, a2_1⟩ : S23)] : List (S23))) (inner := [.string t30004, .int .i64 t30005, .string a2_0, .int .i64 a2_1]) (ok := fun _ => True) (okp := fun _ => True) ?hr ?hp (fun _ hk => hk) trivial (Below.refl _ _) (Nat.le_refl _) (by simp) ?_; (case hd => rfl); (case hg => rfl); (case hr => first | (go_simp; done) | (go_simp; rfl)); (case hp => exact (Reps.c2 (show Kd.M k23 _ _ _ (⟨t30004, t30005⟩ : S23) [.string t30004, .int .i64 t30005] from (k23_mkM _ _ _ (⟨t30004, t30005⟩ : S23) )) (Reps.c2 (show Kd.M k23 _ _ _ (⟨a2_0, a2_1⟩ : S23) [.string a2_0, .int .i64 a2_1] from (k23_mkM _ _ _ (⟨a2_0, a2_1⟩ : S23) )) (Reps.none _ _))))
   intro v30007 w16 ho17 hb hg_ hnew_
   clear hg_ hnew_
   (first | rw [← Ny30006.out] at ho17 | (simp only [Int.reduceToNat] at ho17; rw [← Ny30006.out] at ho17))
   have n0_ := Aside0.mk (Kd.R_lower (Kd.R_newB ho17 (g := gb30001) (o := .cells #[.string a2_0, .int .i64 a2_1] 23 (0, 0)) (by (with_reducible repeat (first | refine blk_drewN ?_ _ | refine blk_drew ?_ | refine blk_alloc ?_ _)); exact BK30001.out)) (below_size (by repeat (first | (with_reducible first | exact HB.out | apply below_alloc | apply pw_below_drewN | apply below_drew1 | refine below_set ?_ GE30001.out) | exact HB.out))))
   have n1_ := Aside0.mk (blk_below (g := gb30001) (o := .cells #[.string a2_0, .int .i64 a2_1] 23 (0, 0)) (by (with_reducible repeat (first | refine blk_drewN ?_ _ | refine blk_drew ?_ | refine blk_alloc ?_ _)); exact BK30001.out) hb)
   have n2_ := Aside0.mk (below_step (by repeat (first | (with_reducible first | exact HB.out | apply below_alloc | apply pw_below_drewN | apply below_drew1 | refine below_set ?_ GE30001.out) | exact HB.out)) hb)
   clear BK30001
   clear HB
   have HO30008 := n0_
   have BK30001 := n1_
   have HB := n2_
   clear n0_ n1_ n2_
   clear hb ho17
   obtain ⟨Ao18, co18, eo18⟩ := Kd.R_slice HO30008.out
   (first | subst eo18 | (injection eo18 with f1_ f2_ f3_; have f4_ := f1_.symm; have f5_ := f3_.symm; clear f1_ f2_ f3_; subst f4_; subst f5_))
   refine hK.out _ _ ⟨(blk_cell BK30001.out 0).trans rfl, (blk_cell BK30001.out 1).trans rfl⟩ (fun hHeld => ?_)
   clear hK K
   refine norm_ (a' := ?_) ?_ ?_
   rotate_left
   ·show Act.put _ (some 48) _ = _
    simp only [Act.put, List.setIfInBounds_toArray, List.set_cons_zero, List.set_cons_succ, i64_w, i32_w]
    rfl
   refine pure_ (i := 5) (N := some 49) (v := ?_) (a' := ?_) #[true, true, true, true, true, true, true] rfl rfl (by kernel_rfl) (fun _ _ _ h => h) (Or.inl ⟨by rfl, ?_⟩) ?_ ?_
   rotate_left
   ·intro w'
    go_simp
    with_reducible rfl
   rotate_left
   ·simp only [Act.put, List.setIfInBounds_toArray, List.set_cons_zero, List.set_cons_succ, i64_w, i32_w]
    rfl
   refine done_ (by kernel_rfl) ?_
   try go_wp2
   go_loopg [50] k (fun kq v50 w' => ∃ (x50_1 : Int), v50 = .int .i64 x50_1 ∧ Aside0 (columbariumlaw07_TapeTells.l0 kq a0 a1 a3 t30002 (l4.take ((ji7) : Int).toNat) y30006 (y30006.length : Int) x50_1 = some r) ∧ Aside0 (kq ≤ k) ∧ Aside0 (Kd.R k23 23 w' w.heap.size (fun k_ => k_ ≠ gb30001) (.slice Ao18 y30006.length co18) y30006) ∧ Aside0 (w'.heap[gb30001]? = some (.cells #[.string a2_0, .int .i64 a2_1] 23 (0, 0))) ∧ Aside0 (Below w.heap.size w w'))
   case atStart => exact ⟨(0), (by first | rfl | (simp; done) | (simp [*]; done)), H', ⟨Nat.le_refl _⟩, ⟨by (with_reducible repeat (first | apply Kd.R_alloc | apply Kd.R_drewN | apply Kd.R_drew)); exact Kd.R_mono HO30008.out (fun _ hk => hk.2)⟩, ⟨by (with_reducible repeat (first | refine blk_drewN ?_ _ | refine blk_drew ?_ | refine blk_alloc ?_ _)); exact BK30001.out⟩, ⟨by repeat (first | (with_reducible first | exact HB.out | apply below_alloc | apply pw_below_drewN | apply below_drew1 | refine below_set ?_ GE30001.out) | exact HB.out)⟩⟩
   case round =>
    clear H'
    try clear c1
    try clear c2
    try clear p2
    try clear c3
    try clear c4
    try clear c8
    try clear c8b0
    try clear c8b1
    try clear c9
    try clear c9b0
    try clear c9b1
    try clear c14
    try clear c15
    obtain ⟨x50_1, rfl, HA, HK1, HO_48, BK30001, HB⟩ := hrel
    cases gk with
    | zero => exact absurd HA.out (by simp [columbariumlaw07_TapeTells.l0])
    | succ k1 =>
     have H := HA.out
     clear HA
     simp only [columbariumlaw07_TapeTells.l0] at H
     by_cases c19 : x50_1 < (y30006.length : Int)
     ·rw [if_pos c19] at H
      have c19b0 : decide (x50_1 < (y30006.length : Int)) = true := decide_eq_true c19
      clear c19
      by_cases c20 : 0 ≤ x50_1
      ·rw [if_pos c20] at H
       have c20b0 : decide (0 ≤ x50_1) = true := decide_eq_true c20
       clear c20
       by_cases c21 : x50_1 < (y30006.length : Int)
       ·rw [if_pos c21] at H
        have c21b0 : decide (x50_1 < (y30006.length : Int)) = true := decide_eq_true c21
        clear c21
        by_cases c22 : (((rd_T23 y30006 x50_1).f0).size : Int) > 500
        ·rw [if_pos c22] at H
         have c22b0 : decide (500 < (((rd_T23 y30006 x50_1).f0).size : Int)) = true := decide_eq_true c22
         have c22b1 : decide (500 < ((rd_T23 y30006 x50_1).f0).size) = true := decide_eq_true (by omega)
         clear c22
         have H' := Aside0.mk H
         clear H
         have p30021 : 0 ≤ (x50_1 : Int) := of_decide_eq_true (by first | (with_reducible assumption) | assumption)
         have q30021 : x50_1 < (y30006.length : Int) := of_decide_eq_true (by first | (with_reducible assumption) | assumption)
         obtain ⟨ad30021, e30021, hx30021_0, hx30021_1⟩ := at_T23 (Kd.R_reads' HO_48.out).2.2 x50_1 p30021 q30021
         cases e30021
         replace p30021 := eq_true p30021
         replace q30021 := eq_true q30021
         go_wp2_with (first | ((with_reducible refine gate_dst (N := 14) rfl ?_); refine box_event ?hg (N := 14) ?hd (cs := #[.string (⟨#[]⟩ : ByteArray), .int .i64 0]) (t := 23) ?hr ?_; (case hd => rfl); (case hg => rfl); (case hr => first | (go_simp; done) | (go_simp; rfl)); intro gb30022 hg w23 hbox hb; have n0_ := Aside0.mk (Kd.R_below (Kd.R_elderB (by (with_reducible repeat (first | apply Kd.R_alloc | apply Kd.R_drewN | apply Kd.R_drew)); exact HO_48.out) gb30022 (Nat.le_of_eq hg.symm)) hb); have n1_ := Aside0.mk (blk_below (g := gb30001) (o := .cells #[.string a2_0, .int .i64 a2_1] 23 (0, 0)) (by (with_reducible repeat (first | refine blk_drewN ?_ _ | refine blk_drew ?_ | refine blk_alloc ?_ _)); exact BK30001.out) hb); have n2_ := Aside0.mk (below_step (by repeat (first | (with_reducible first | exact HB.out | apply below_alloc | apply pw_below_drewN | apply below_drew1 | refine below_set ?_ GE30001.out) | exact HB.out)) hb); have n3_ := Aside0.mk (hbox); have n4_ := Aside0.mk ((by rw [hg]; exact (below_size (by repeat (first | (with_reducible first | exact HB.out | apply below_alloc | apply pw_below_drewN | apply below_drew1 | refine below_set ?_ GE30001.out) | exact HB.out))) : w.heap.size ≤ gb30022)); have n5_ := Aside0.mk ((by rw [hg]; exact (below_size (by repeat (first | (with_reducible first | exact HB.out | apply below_alloc | apply pw_below_drewN | apply below_drew1 | refine below_set ?_ GE30001.out) | exact HB.out))) : w.heap.size ≤ gb30022)); have n6_ := Aside0.mk ((by rw [hg]; exact Nat.ne_of_lt (blk_lt (g := gb30001) (o := .cells #[.string a2_0, .int .i64 a2_1] 23 (0, 0)) (by (with_reducible repeat (first | refine blk_drewN ?_ _ | refine blk_drew ?_ | refine blk_alloc ?_ _)); exact BK30001.out)) : gb30001 ≠ gb30022)); have n7_ := Aside0.mk ((by rw [hg]; exact Nat.ne_of_gt (blk_lt (g := gb30001) (o := .cells #[.string a2_0, .int .i64 a2_1] 23 (0, 0)) (by (with_reducible repeat (first | refine blk_drewN ?_ _ | refine blk_drew ?_ | refine blk_alloc ?_ _)); exact BK30001.out)) : gb30022 ≠ gb30001)); clear HO_48; clear BK30001; clear HB; have HO_48 := n0_; have BK30001 := n1_; have HB := n2_; have BK30022 := n3_; have GW30022 := n4_; have GE30022 := n5_; have NB30001_30022 := n6_; have NB30022_30001 := n7_; clear n0_ n1_ n2_ n3_ n4_ n5_ n6_ n7_; clear hb hbox hg; have hnb24 := NB30022_30001.out; have hnc24 := NB30001_30022.out; have hcz25_0 : w23.cell? ⟨gb30022, 0, none⟩ = some (.string (⟨#[]⟩ : ByteArray)) := (blk_cell BK30022.out 0).trans rfl; have hcz25_1 : w23.cell? ⟨gb30022, 1, none⟩ = some (.int .i64 0) := (blk_cell BK30022.out 1).trans rfl; have hfz25_0 := blk_frozen BK30022.out 0; have hfz25_1 := blk_frozen BK30022.out 1))
         go_roundg k1
         case measure => have := HK1.out; omega
         case rel => exact ⟨(wrap64 (x50_1 + 1)), (by first | rfl | (simp; done) | (simp [*]; done)), H', ⟨by have := HK1.out; omega⟩, ⟨by (with_reducible repeat (first | apply Kd.R_alloc | apply Kd.R_drewN | apply Kd.R_drew)); exact Kd.R_mono (Kd.R_far (p := ⟨gb30022, 1, none⟩) (Kd.R_far (p := ⟨gb30022, 0, none⟩) (Kd.R_mono HO_48.out (fun k_ hk => (⟨hk, hk.2⟩ : _ ∧ k_ ≠ gb30022))) (fun _ hk => hk.2) (.string ((rd_T23 y30006 x50_1).f0))) (fun _ hk => hk.2) (.int .i64 ((rd_T23 y30006 x50_1).f1))) (fun _ hk => hk.1.1)⟩, ⟨by (with_reducible repeat (first | refine blk_drewN ?_ _ | refine blk_drew ?_ | refine blk_alloc ?_ _)); refine blk_far ?_ NB30001_30022.out _; (with_reducible repeat (first | refine blk_drewN ?_ _ | refine blk_drew ?_ | refine blk_alloc ?_ _)); refine blk_far ?_ NB30001_30022.out _; (with_reducible repeat (first | refine blk_drewN ?_ _ | refine blk_drew ?_ | refine blk_alloc ?_ _)); exact BK30001.out⟩, ⟨by repeat (first | (with_reducible first | exact HB.out | apply below_alloc | apply pw_below_drewN | apply below_drew1 | refine below_set ?_ GE30001.out | refine below_set ?_ GE30022.out) | exact HB.out)⟩⟩
        ·rw [if_neg c22] at H
         have c22b0 : decide (500 < (((rd_T23 y30006 x50_1).f0).size : Int)) = false := decide_eq_false c22
         have c22b1 : decide (500 < ((rd_T23 y30006 x50_1).f0).size) = false := decide_eq_false (by omega)
         clear c22
         have HC26 := Aside0.mk H
         clear H
         have p30021 : 0 ≤ (x50_1 : Int) := of_decide_eq_true (by first | (with_reducible assumption) | assumption)
         have q30021 : x50_1 < (y30006.length : Int) := of_decide_eq_true (by first | (with_reducible assumption) | assumption)
         obtain ⟨ad30021, e30021, hx30021_0, hx30021_1⟩ := at_T23 (Kd.R_reads' HO_48.out).2.2 x50_1 p30021 q30021
         cases e30021
         replace p30021 := eq_true p30021
         replace q30021 := eq_true q30021
         go_upto_region 7 with (first | ((with_reducible refine gate_dst (N := 14) rfl ?_); refine box_event ?hg (N := 14) ?hd (cs := #[.string (⟨#[]⟩ : ByteArray), .int .i64 0]) (t := 23) ?hr ?_; (case hd => rfl); (case hg => rfl); (case hr => first | (go_simp; done) | (go_simp; rfl)); intro gb30022 hg w27 hbox hb; have n0_ := Aside0.mk (Kd.R_below (Kd.R_elderB (by (with_reducible repeat (first | apply Kd.R_alloc | apply Kd.R_drewN | apply Kd.R_drew)); exact HO_48.out) gb30022 (Nat.le_of_eq hg.symm)) hb); have n1_ := Aside0.mk (blk_below (g := gb30001) (o := .cells #[.string a2_0, .int .i64 a2_1] 23 (0, 0)) (by (with_reducible repeat (first | refine blk_drewN ?_ _ | refine blk_drew ?_ | refine blk_alloc ?_ _)); exact BK30001.out) hb); have n2_ := Aside0.mk (below_step (by repeat (first | (with_reducible first | exact HB.out | apply below_alloc | apply pw_below_drewN | apply below_drew1 | refine below_set ?_ GE30001.out) | exact HB.out)) hb); have n3_ := Aside0.mk (hbox); have n4_ := Aside0.mk ((by rw [hg]; exact (below_size (by repeat (first | (with_reducible first | exact HB.out | apply below_alloc | apply pw_below_drewN | apply below_drew1 | refine below_set ?_ GE30001.out) | exact HB.out))) : w.heap.size ≤ gb30022)); have n5_ := Aside0.mk ((by rw [hg]; exact (below_size (by repeat (first | (with_reducible first | exact HB.out | apply below_alloc | apply pw_below_drewN | apply below_drew1 | refine below_set ?_ GE30001.out) | exact HB.out))) : w.heap.size ≤ gb30022)); have n6_ := Aside0.mk ((by rw [hg]; exact Nat.ne_of_lt (blk_lt (g := gb30001) (o := .cells #[.string a2_0, .int .i64 a2_1] 23 (0, 0)) (by (with_reducible repeat (first | refine blk_drewN ?_ _ | refine blk_drew ?_ | refine blk_alloc ?_ _)); exact BK30001.out)) : gb30001 ≠ gb30022)); have n7_ := Aside0.mk ((by rw [hg]; exact Nat.ne_of_gt (blk_lt (g := gb30001) (o := .cells #[.string a2_0, .int .i64 a2_1] 23 (0, 0)) (by (with_reducible repeat (first | refine blk_drewN ?_ _ | refine blk_drew ?_ | refine blk_alloc ?_ _)); exact BK30001.out)) : gb30022 ≠ gb30001)); clear HO_48; clear BK30001; clear HB; have HO_48 := n0_; have BK30001 := n1_; have HB := n2_; have BK30022 := n3_; have GW30022 := n4_; have GE30022 := n5_; have NB30001_30022 := n6_; have NB30022_30001 := n7_; clear n0_ n1_ n2_ n3_ n4_ n5_ n6_ n7_; clear hb hbox hg; have hnb28 := NB30022_30001.out; have hnc28 := NB30001_30022.out; have hcz29_0 : w27.cell? ⟨gb30022, 0, none⟩ = some (.string (⟨#[]⟩ : ByteArray)) := (blk_cell BK30022.out 0).trans rfl; have hcz29_1 : w27.cell? ⟨gb30022, 1, none⟩ = some (.int .i64 0) := (blk_cell BK30022.out 1).trans rfl; have hfz29_0 := blk_frozen BK30022.out 0; have hfz29_1 := blk_frozen BK30022.out 1))
         (try simp only [Act.put, List.setIfInBounds_toArray, List.set_cons_zero, List.set_cons_succ])
         go_cut [69] (fun v69 wc => ∃ (kq : Nat) (x69_25 : Bool), v69 = .bool x69_25 ∧ Aside0 (columbariumlaw07_TapeTells.j1 kq a0 a1 a3 t30002 (l4.take ((ji7) : Int).toNat) y30006 (y30006.length : Int) x50_1 x69_25 ((rd_T23 y30006 x50_1).f0) ((rd_T23 y30006 x50_1).f1) = some r) ∧ Aside0 (kq ≤ k1) ∧ Aside0 (Kd.R k23 23 wc w.heap.size (fun k_ => k_ ≠ gb30001 ∧ k_ ≠ gb30022) (.slice (some ad30021) y30006.length co18) y30006) ∧ Aside0 (wc.heap[gb30001]? = some (.cells #[.string a2_0, .int .i64 a2_1] 23 (0, 0))) ∧ Aside0 (wc.heap[gb30022]? = some (.cells #[.string ((rd_T23 y30006 x50_1).f0), .int .i64 ((rd_T23 y30006 x50_1).f1)] 23 (0, 0))) ∧ Aside0 (Below w.heap.size w wc))
         case first =>
          have H := HC26.out
          clear HC26
          replace H := Option.bind_eq_some_iff.mp H
          obtain ⟨t30023, A300, H⟩ := H
          replace H : ((columbariumref07_Right.f ((rd_T23 y30006 x50_1).f0) ((rd_T23 y30006 x50_1).f1)).bind fun t30024 => (if (t30023 != t30024) = true then (columbariumlaw07_TapeTells.j1 k1 a0 a1 a3 t30002 (l4.take ((ji7) : Int).toNat) y30006 (y30006.length : Int) x50_1 true ((rd_T23 y30006 x50_1).f0) ((rd_T23 y30006 x50_1).f1)) else ((tape_Left.f ((rd_T23 y30006 x50_1).f0) ((rd_T23 y30006 x50_1).f1)).bind fun t30025 => ((columbariumref07_Left.f ((rd_T23 y30006 x50_1).f0) ((rd_T23 y30006 x50_1).f1)).bind fun t30026 => (columbariumlaw07_TapeTells.j1 k1 a0 a1 a3 t30002 (l4.take ((ji7) : Int).toNat) y30006 (y30006.length : Int) x50_1 (t30025 != t30026) ((rd_T23 y30006 x50_1).f0) ((rd_T23 y30006 x50_1).f1)))))) = some r := H
          have A30 := Aside0.mk A300
          clear A300
          replace H := Option.bind_eq_some_iff.mp H
          obtain ⟨t30024, A310, H⟩ := H
          replace H : (if (t30023 != t30024) = true then (columbariumlaw07_TapeTells.j1 k1 a0 a1 a3 t30002 (l4.take ((ji7) : Int).toNat) y30006 (y30006.length : Int) x50_1 true ((rd_T23 y30006 x50_1).f0) ((rd_T23 y30006 x50_1).f1)) else ((tape_Left.f ((rd_T23 y30006 x50_1).f0) ((rd_T23 y30006 x50_1).f1)).bind fun t30025 => ((columbariumref07_Left.f ((rd_T23 y30006 x50_1).f0) ((rd_T23 y30006 x50_1).f1)).bind fun t30026 => (columbariumlaw07_TapeTells.j1 k1 a0 a1 a3 t30002 (l4.take ((ji7) : Int).toNat) y30006 (y30006.length : Int) x50_1 (t30025 != t30026) ((rd_T23 y30006 x50_1).f0) ((rd_T23 y30006 x50_1).f1))))) = some r := H
          have A31 := Aside0.mk A310
          clear A310
          by_cases c32 : (t30023 != t30024) = true
          ·rw [if_pos c32] at H
           have c32b0 : (t30023 != t30024) = true := c32
           (try (have c32b1 : decide (t30023 = t30024) = false := by simpa using c32))
           (try (have c32b2 : (t30023 == t30024) = false := by simpa using c32))
           (try (have c32b3 : ¬ (t30023 = t30024) := by simpa using c32))
           clear c32
           (first | rw [c32b0] | rw [c32b1] | (simp only [i64_w, i32_w]; rw [c32b0]) | skip)
           have H' := Aside0.mk H
           clear H
           try go_wp2
           have n0_ : Aside0 (Kd.R k23 23 ((w27.setCell ⟨gb30022, 0, none⟩ (.string ((rd_T23 y30006 x50_1).f0))).setCell ⟨gb30022, 1, none⟩ (.int .i64 ((rd_T23 y30006 x50_1).f1))) w.heap.size (fun k_ => k_ ≠ gb30001 ∧ k_ ≠ gb30022) (.slice (some ad30021) y30006.length co18) y30006) := ⟨by (with_reducible repeat (first | apply Kd.R_alloc | apply Kd.R_drewN | apply Kd.R_drew)); exact Kd.R_mono (Kd.R_far (p := ⟨gb30022, 1, none⟩) (Kd.R_far (p := ⟨gb30022, 0, none⟩) (Kd.R_mono HO_48.out (fun k_ hk => (⟨hk, hk.2⟩ : _ ∧ k_ ≠ gb30022))) (fun _ hk => hk.2) (.string ((rd_T23 y30006 x50_1).f0))) (fun _ hk => hk.2) (.int .i64 ((rd_T23 y30006 x50_1).f1))) (fun _ hk => ⟨hk.1.1, hk.1.2⟩)⟩
           have n1_ : Aside0 (((w27.setCell ⟨gb30022, 0, none⟩ (.string ((rd_T23 y30006 x50_1).f0))).setCell ⟨gb30022, 1, none⟩ (.int .i64 ((rd_T23 y30006 x50_1).f1))).heap[gb30001]? = some (.cells #[.string a2_0, .int .i64 a2_1] 23 (0, 0))) := ⟨by (with_reducible repeat (first | refine blk_drewN ?_ _ | refine blk_drew ?_ | refine blk_alloc ?_ _)); refine blk_far ?_ NB30001_30022.out _; (with_reducible repeat (first | refine blk_drewN ?_ _ | refine blk_drew ?_ | refine blk_alloc ?_ _)); refine blk_far ?_ NB30001_30022.out _; (with_reducible repeat (first | refine blk_drewN ?_ _ | refine blk_drew ?_ | refine blk_alloc ?_ _)); exact BK30001.out⟩
           have n2_ : Aside0 (((w27.setCell ⟨gb30022, 0, none⟩ (.string ((rd_T23 y30006 x50_1).f0))).setCell ⟨gb30022, 1, none⟩ (.int .i64 ((rd_T23 y30006 x50_1).f1))).heap[gb30022]? = some (.cells #[.string ((rd_T23 y30006 x50_1).f0), .int .i64 ((rd_T23 y30006 x50_1).f1)] 23 (0, 0))) := ⟨by (with_reducible repeat (first | refine blk_drewN ?_ _ | refine blk_drew ?_ | refine blk_alloc ?_ _)); refine blk_put (cs := #[.string ((rd_T23 y30006 x50_1).f0), .int .i64 0]) ?_ 1 _ rfl; (with_reducible repeat (first | refine blk_drewN ?_ _ | refine blk_drew ?_ | refine blk_alloc ?_ _)); refine blk_put (cs := #[.string (⟨#[]⟩ : ByteArray), .int .i64 0]) ?_ 0 _ rfl; (with_reducible repeat (first | refine blk_drewN ?_ _ | refine blk_drew ?_ | refine blk_alloc ?_ _)); exact BK30022.out⟩
           have n3_ : Aside0 (Below w.heap.size w ((w27.setCell ⟨gb30022, 0, none⟩ (.string ((rd_T23 y30006 x50_1).f0))).setCell ⟨gb30022, 1, none⟩ (.int .i64 ((rd_T23 y30006 x50_1).f1)))) := ⟨by repeat (first | (with_reducible first | exact HB.out | apply below_alloc | apply pw_below_drewN | apply below_drew1 | refine below_set ?_ GE30001.out | refine below_set ?_ GE30022.out) | exact HB.out)⟩
           (try clear HO_48)
           (try clear BK30001)
           (try clear BK30022)
           (try clear HB)
           generalize ((w27.setCell ⟨gb30022, 0, none⟩ (.string ((rd_T23 y30006 x50_1).f0))).setCell ⟨gb30022, 1, none⟩ (.int .i64 ((rd_T23 y30006 x50_1).f1))) = w33 at n0_ n1_ n2_ n3_ ⊢
           have HO_48 := n0_
           have BK30001 := n1_
           have BK30022 := n2_
           have HB := n3_
           clear n0_ n1_ n2_ n3_
           have n0_ := Aside0.mk (Kd.R_drew HO_48.out)
           have n1_ := Aside0.mk (blk_drew BK30001.out)
           have n2_ := Aside0.mk (blk_drew BK30022.out)
           have n3_ := Aside0.mk (below_drew1 HB.out)
           clear HO_48
           clear BK30001
           clear BK30022
           clear HB
           have HO_48 := n0_
           have BK30001 := n1_
           have BK30022 := n2_
           have HB := n3_
           clear n0_ n1_ n2_ n3_
           refine start_ (n := 12) (S := fun w' => w'.cell? ⟨gb30022, 0, none⟩ = some (.string ((rd_T23 y30006 x50_1).f0)) ∧ w'.cell? ⟨gb30022, 1, none⟩ = some (.int .i64 ((rd_T23 y30006 x50_1).f1))) (ds := []) #[false, false, false, false, false, false, false, false, false, false, false, false] (by kernel_rfl) rfl rfl ⟨(blk_cell BK30022.out 0).trans rfl, (blk_cell BK30022.out 1).trans rfl⟩ (fun hHeld => ?_); refine with_tabW columbariumlaw07_TapeTells.tab7 columbariumlaw07_TapeTells.bits7 (fun HT_ HW_ => ?_)
           generalize w33.drew = w34 at HO_48 BK30001 BK30022 HB hHeld ⊢
           refine take_ (i := 0) (N := some 58) (v := ?_) (a' := ?_) #[true, false, false, false, false, false, false, false, false, false, false, false] rfl rfl (take_ofW HT_.out HW_.out (by kernel_rfl)) (fun _ _ _ h => h) (Or.inl ⟨by rfl, ?_⟩) hHeld ?_ ?_
           rotate_left
           ·rintro w' ⟨s0, s1⟩
            go_simp
            with_reducible rfl
           rotate_left
           ·simp only [Act.put, List.setIfInBounds_toArray, List.set_cons_zero, List.set_cons_succ, i64_w, i32_w]
            rfl
           refine take_ (i := 2) (N := some 60) (v := ?_) (a' := ?_) #[true, false, true, false, false, false, false, false, false, false, false, false] rfl rfl (take_ofW HT_.out HW_.out (by kernel_rfl)) (fun _ _ _ h => h) (Or.inl ⟨by rfl, ?_⟩) hHeld ?_ ?_
           rotate_left
           ·rintro w' ⟨s0, s1⟩
            go_simp
            with_reducible rfl
           rotate_left
           ·simp only [Act.put, List.setIfInBounds_toArray, List.set_cons_zero, List.set_cons_succ, i64_w, i32_w]
            rfl
           refine one_ (i := 1) (N := some 59) #[true, true, true, false, false, false, false, false, false, false, false, false] rfl rfl (one_of HT_.out (by kernel_rfl)) (by decide) (fun K hK => ?_)
           refine goes_ Try.func16 (by kernel_rfl) rfl #[.agg #[.string ((rd_T23 y30006 x50_1).f0), .int .i64 ((rd_T23 y30006 x50_1).f1)]] (by rfl) rfl rfl (by (try simp only [List.map_toArray, List.map_cons, List.map_nil]); first | done | rfl | (simp only [List.length_drop, List.length_take]; rfl)) ?_
           with_reducible refine (tape_Right.calls ((rd_T23 y30006 x50_1).f0) ((rd_T23 y30006 x50_1).f1) t30023 _ A30.out).mono ?_
           rintro e w35 ⟨rfl, hb⟩
           refine ⟨_, rfl, ?_⟩
           have n0_ := Aside0.mk (Kd.R_below (by (with_reducible repeat (first | apply Kd.R_alloc | apply Kd.R_drewN | apply Kd.R_drew)); exact HO_48.out) hb)
           have n1_ := Aside0.mk (blk_below (g := gb30001) (o := .cells #[.string a2_0, .int .i64 a2_1] 23 (0, 0)) (by (with_reducible repeat (first | refine blk_drewN ?_ _ | refine blk_drew ?_ | refine blk_alloc ?_ _)); exact BK30001.out) hb)
           have n2_ := Aside0.mk (blk_below (g := gb30022) (o := .cells #[.string ((rd_T23 y30006 x50_1).f0), .int .i64 ((rd_T23 y30006 x50_1).f1)] 23 (0, 0)) (by (with_reducible repeat (first | refine blk_drewN ?_ _ | refine blk_drew ?_ | refine blk_alloc ?_ _)); exact BK30022.out) hb)
           have n3_ := Aside0.mk (below_step (by repeat (first | (with_reducible first | exact HB.out | apply below_alloc | apply pw_below_drewN | apply below_drew1 | refine below_set ?_ GE30001.out | refine below_set ?_ GE30022.out) | exact HB.out)) hb)
           clear HO_48
           clear BK30001
           clear BK30022
           clear HB
           have HO_48 := n0_
           have BK30001 := n1_
           have BK30022 := n2_
           have HB := n3_
           clear n0_ n1_ n2_ n3_
           (try clear hb)
           (try clear hb2)
           (try clear hk)
           (try clear hi)
           refine hK.out _ _ ⟨(blk_cell BK30022.out 0).trans rfl, (blk_cell BK30022.out 1).trans rfl⟩ (fun hHeld => ?_)
           clear hK K
           refine norm_ (a' := ?_) ?_ ?_
           rotate_left
           ·show Act.put _ (some 59) _ = _
            simp only [Act.put, List.setIfInBounds_toArray, List.set_cons_zero, List.set_cons_succ, i64_w, i32_w]
            rfl
           refine one_ (i := 3) (N := some 61) #[true, true, true, true, false, false, false, false, false, false, false, false] rfl rfl (one_of HT_.out (by kernel_rfl)) (by decide) (fun K hK => ?_)
           refine goes_ Try.func17 (by kernel_rfl) rfl #[.agg #[.string ((rd_T23 y30006 x50_1).f0), .int .i64 ((rd_T23 y30006 x50_1).f1)]] (by rfl) rfl rfl (by (try simp only [List.map_toArray, List.map_cons, List.map_nil]); first | done | rfl | (simp only [List.length_drop, List.length_take]; rfl)) ?_
           with_reducible refine (columbariumref07_Right.calls ((rd_T23 y30006 x50_1).f0) ((rd_T23 y30006 x50_1).f1) t30024 _ A31.out).mono ?_
           rintro e w36 ⟨rfl, hb⟩
           refine ⟨_, rfl, ?_⟩
           have n0_ := Aside0.mk (Kd.R_below (by (with_reducible repeat (first | apply Kd.R_alloc | apply Kd.R_drewN | apply Kd.R_drew)); exact HO_48.out) hb)
           have n1_ := Aside0.mk (blk_below (g := gb30001) (o := .cells #[.string a2_0, .int .i64 a2_1] 23 (0, 0)) (by (with_reducible repeat (first | refine blk_drewN ?_ _ | refine blk_drew ?_ | refine blk_alloc ?_ _)); exact BK30001.out) hb)
           have n2_ := Aside0.mk (blk_below (g := gb30022) (o := .cells #[.string ((rd_T23 y30006 x50_1).f0), .int .i64 ((rd_T23 y30006 x50_1).f1)] 23 (0, 0)) (by (with_reducible repeat (first | refine blk_drewN ?_ _ | refine blk_drew ?_ | refine blk_alloc ?_ _)); exact BK30022.out) hb)
           have n3_ := Aside0.mk (below_step (by repeat (first | (with_reducible first | exact HB.out | apply below_alloc | apply pw_below_drewN | apply below_drew1 | refine below_set ?_ GE30001.out | refine below_set ?_ GE30022.out) | exact HB.out)) hb)
           clear HO_48
           clear BK30001
           clear BK30022
           clear HB
           have HO_48 := n0_
           have BK30001 := n1_
           have BK30022 := n2_
           have HB := n3_
           clear n0_ n1_ n2_ n3_
           (try clear hb)
           (try clear hb2)
           (try clear hk)
           (try clear hi)
           refine hK.out _ _ ⟨(blk_cell BK30022.out 0).trans rfl, (blk_cell BK30022.out 1).trans rfl⟩ (fun hHeld => ?_)
           clear hK K
           refine norm_ (a' := ?_) ?_ ?_
           rotate_left
           ·show Act.put _ (some 61) _ = _
            simp only [Act.put, List.setIfInBounds_toArray, List.set_cons_zero, List.set_cons_succ, i64_w, i32_w]
            rfl
           refine pure_ (i := 4) (N := some 62) (v := ?_) (a' := ?_) #[true, true, true, true, true, false, false, false, false, false, false, false] rfl rfl (any_of HT_.out (by kernel_rfl)) (fun _ _ _ h => h) (Or.inl ⟨by rfl, ?_⟩) ?_ ?_
           rotate_left
           ·intro w'
            go_simp
            with_reducible rfl
           rotate_left
           ·simp only [Act.put, List.setIfInBounds_toArray, List.set_cons_zero, List.set_cons_succ, i64_w, i32_w]
            rfl
           refine pure_ (i := 5) (N := some 63) (v := ?_) (a' := ?_) #[true, true, true, true, true, true, false, false, false, false, false, false] rfl rfl (any_of HT_.out (by kernel_rfl)) (fun _ _ _ h => h) (Or.inl ⟨by rfl, ?_⟩) ?_ ?_
           rotate_left
           ·intro w'
            go_simp
            with_reducible rfl
           rotate_left
           ·simp only [Act.put, List.setIfInBounds_toArray, List.set_cons_zero, List.set_cons_succ, i64_w, i32_w]
            rfl
           refine pure_ (i := 6) (N := some 64) (v := undef) (a' := ?_) #[true, true, true, true, true, true, true, false, false, false, false, false] rfl rfl (any_of HT_.out (by kernel_rfl)) (fun _ _ _ h => h) (Or.inr ⟨by rfl, rfl⟩) ?_ ?_
           rotate_left
           ·simp only [Act.put, List.setIfInBounds_toArray, List.set_cons_zero, List.set_cons_succ, i64_w, i32_w]
            rfl
           refine pure_ (i := 7) (N := some 65) (v := undef) (a' := ?_) #[true, true, true, true, true, true, true, true, false, false, false, false] rfl rfl (any_of HT_.out (by kernel_rfl)) (fun _ _ _ h => h) (Or.inr ⟨by rfl, rfl⟩) ?_ ?_
           rotate_left
           ·simp only [Act.put, List.setIfInBounds_toArray, List.set_cons_zero, List.set_cons_succ, i64_w, i32_w]
            rfl
           refine pure_ (i := 8) (N := some 66) (v := undef) (a' := ?_) #[true, true, true, true, true, true, true, true, true, false, false, false] rfl rfl (any_of HT_.out (by kernel_rfl)) (fun _ _ _ h => h) (Or.inr ⟨by rfl, rfl⟩) ?_ ?_
           rotate_left
           ·simp only [Act.put, List.setIfInBounds_toArray, List.set_cons_zero, List.set_cons_succ, i64_w, i32_w]
            rfl
           refine pure_ (i := 9) (N := some 67) (v := undef) (a' := ?_) #[true, true, true, true, true, true, true, true, true, true, false, false] rfl rfl (any_of HT_.out (by kernel_rfl)) (fun _ _ _ h => h) (Or.inr ⟨by rfl, rfl⟩) ?_ ?_
           rotate_left
           ·simp only [Act.put, List.setIfInBounds_toArray, List.set_cons_zero, List.set_cons_succ, i64_w, i32_w]
            rfl
           refine pure_ (i := 10) (N := some 68) (v := undef) (a' := ?_) #[true, true, true, true, true, true, true, true, true, true, true, false] rfl rfl (any_of HT_.out (by kernel_rfl)) (fun _ _ _ h => h) (Or.inr ⟨by rfl, rfl⟩) ?_ ?_
           rotate_left
           ·simp only [Act.put, List.setIfInBounds_toArray, List.set_cons_zero, List.set_cons_succ, i64_w, i32_w]
            rfl
           refine pure_ (i := 11) (N := some 69) (v := ?_) (a' := ?_) #[true, true, true, true, true, true, true, true, true, true, true, true] rfl rfl (any_of HT_.out (by kernel_rfl)) (fun _ _ _ h => h) (Or.inl ⟨by rfl, ?_⟩) ?_ ?_
           rotate_left
           ·intro w'
            go_simp
            with_reducible rfl
           rotate_left
           ·simp only [Act.put, List.setIfInBounds_toArray, List.set_cons_zero, List.set_cons_succ, i64_w, i32_w]
            rfl
           refine done_ (done_of HT_.out (by kernel_rfl)) ?_
           try go_wp2
           go_meet
           case rel => exact ⟨_, (true), (by first | rfl | (simp; done) | (simp [*]; done)), H', ⟨by have := HK1.out; first | omega | exact Nat.le_refl _⟩, ⟨by (with_reducible repeat (first | apply Kd.R_alloc | apply Kd.R_drewN | apply Kd.R_drew)); exact HO_48.out⟩, ⟨by (with_reducible repeat (first | refine blk_drewN ?_ _ | refine blk_drew ?_ | refine blk_alloc ?_ _)); exact BK30001.out⟩, ⟨by (with_reducible repeat (first | refine blk_drewN ?_ _ | refine blk_drew ?_ | refine blk_alloc ?_ _)); exact BK30022.out⟩, ⟨by repeat (first | (with_reducible first | exact HB.out | apply below_alloc | apply pw_below_drewN | apply below_drew1 | refine below_set ?_ GE30001.out | refine below_set ?_ GE30022.out) | exact HB.out)⟩⟩
          ·rw [if_neg c32] at H
           have c32b0 : (t30023 != t30024) = false := by simpa using c32
           (try (have c32b1 : decide (t30023 = t30024) = true := by simpa using c32))
           (try (have c32b2 : (t30023 == t30024) = true := by simpa using c32))
           clear c32
           (first | rw [c32b0] | rw [c32b1] | (simp only [i64_w, i32_w]; rw [c32b0]) | skip)
           replace H := Option.bind_eq_some_iff.mp H
           obtain ⟨t30025, A370, H⟩ := H
           replace H : ((columbariumref07_Left.f ((rd_T23 y30006 x50_1).f0) ((rd_T23 y30006 x50_1).f1)).bind fun t30026 => (columbariumlaw07_TapeTells.j1 k1 a0 a1 a3 t30002 (l4.take ((ji7) : Int).toNat) y30006 (y30006.length : Int) x50_1 (t30025 != t30026) ((rd_T23 y30006 x50_1).f0) ((rd_T23 y30006 x50_1).f1))) = some r := H
           have A37 := Aside0.mk A370
           clear A370
           replace H := Option.bind_eq_some_iff.mp H
           obtain ⟨t30026, A380, H⟩ := H
           replace H : (columbariumlaw07_TapeTells.j1 k1 a0 a1 a3 t30002 (l4.take ((ji7) : Int).toNat) y30006 (y30006.length : Int) x50_1 (t30025 != t30026) ((rd_T23 y30006 x50_1).f0) ((rd_T23 y30006 x50_1).f1)) = some r := H
           have A38 := Aside0.mk A380
           clear A380
           have H' := Aside0.mk H
           clear H
           try go_wp2
           have n0_ : Aside0 (Kd.R k23 23 ((w27.setCell ⟨gb30022, 0, none⟩ (.string ((rd_T23 y30006 x50_1).f0))).setCell ⟨gb30022, 1, none⟩ (.int .i64 ((rd_T23 y30006 x50_1).f1))) w.heap.size (fun k_ => k_ ≠ gb30001 ∧ k_ ≠ gb30022) (.slice (some ad30021) y30006.length co18) y30006) := ⟨by (with_reducible repeat (first | apply Kd.R_alloc | apply Kd.R_drewN | apply Kd.R_drew)); exact Kd.R_mono (Kd.R_far (p := ⟨gb30022, 1, none⟩) (Kd.R_far (p := ⟨gb30022, 0, none⟩) (Kd.R_mono HO_48.out (fun k_ hk => (⟨hk, hk.2⟩ : _ ∧ k_ ≠ gb30022))) (fun _ hk => hk.2) (.string ((rd_T23 y30006 x50_1).f0))) (fun _ hk => hk.2) (.int .i64 ((rd_T23 y30006 x50_1).f1))) (fun _ hk => ⟨hk.1.1, hk.1.2⟩)⟩
           have n1_ : Aside0 (((w27.setCell ⟨gb30022, 0, none⟩ (.string ((rd_T23 y30006 x50_1).f0))).setCell ⟨gb30022, 1, none⟩ (.int .i64 ((rd_T23 y30006 x50_1).f1))).heap[gb30001]? = some (.cells #[.string a2_0, .int .i64 a2_1] 23 (0, 0))) := ⟨by (with_reducible repeat (first | refine blk_drewN ?_ _ | refine blk_drew ?_ | refine blk_alloc ?_ _)); refine blk_far ?_ NB30001_30022.out _; (with_reducible repeat (first | refine blk_drewN ?_ _ | refine blk_drew ?_ | refine blk_alloc ?_ _)); refine blk_far ?_ NB30001_30022.out _; (with_reducible repeat (first | refine blk_drewN ?_ _ | refine blk_drew ?_ | refine blk_alloc ?_ _)); exact BK30001.out⟩
           have n2_ : Aside0 (((w27.setCell ⟨gb30022, 0, none⟩ (.string ((rd_T23 y30006 x50_1).f0))).setCell ⟨gb30022, 1, none⟩ (.int .i64 ((rd_T23 y30006 x50_1).f1))).heap[gb30022]? = some (.cells #[.string ((rd_T23 y30006 x50_1).f0), .int .i64 ((rd_T23 y30006 x50_1).f1)] 23 (0, 0))) := ⟨by (with_reducible repeat (first | refine blk_drewN ?_ _ | refine blk_drew ?_ | refine blk_alloc ?_ _)); refine blk_put (cs := #[.string ((rd_T23 y30006 x50_1).f0), .int .i64 0]) ?_ 1 _ rfl; (with_reducible repeat (first | refine blk_drewN ?_ _ | refine blk_drew ?_ | refine blk_alloc ?_ _)); refine blk_put (cs := #[.string (⟨#[]⟩ : ByteArray), .int .i64 0]) ?_ 0 _ rfl; (with_reducible repeat (first | refine blk_drewN ?_ _ | refine blk_drew ?_ | refine blk_alloc ?_ _)); exact BK30022.out⟩
           have n3_ : Aside0 (Below w.heap.size w ((w27.setCell ⟨gb30022, 0, none⟩ (.string ((rd_T23 y30006 x50_1).f0))).setCell ⟨gb30022, 1, none⟩ (.int .i64 ((rd_T23 y30006 x50_1).f1)))) := ⟨by repeat (first | (with_reducible first | exact HB.out | apply below_alloc | apply pw_below_drewN | apply below_drew1 | refine below_set ?_ GE30001.out | refine below_set ?_ GE30022.out) | exact HB.out)⟩
           (try clear HO_48)
           (try clear BK30001)
           (try clear BK30022)
           (try clear HB)
           generalize ((w27.setCell ⟨gb30022, 0, none⟩ (.string ((rd_T23 y30006 x50_1).f0))).setCell ⟨gb30022, 1, none⟩ (.int .i64 ((rd_T23 y30006 x50_1).f1))) = w39 at n0_ n1_ n2_ n3_ ⊢
           have HO_48 := n0_
           have BK30001 := n1_
           have BK30022 := n2_
           have HB := n3_
           clear n0_ n1_ n2_ n3_
           have n0_ := Aside0.mk (Kd.R_drew HO_48.out)
           have n1_ := Aside0.mk (blk_drew BK30001.out)
           have n2_ := Aside0.mk (blk_drew BK30022.out)
           have n3_ := Aside0.mk (below_drew1 HB.out)
           clear HO_48
           clear BK30001
           clear BK30022
           clear HB
           have HO_48 := n0_
           have BK30001 := n1_
           have BK30022 := n2_
           have HB := n3_
           clear n0_ n1_ n2_ n3_
           refine start_ (n := 12) (S := fun w' => w'.cell? ⟨gb30022, 0, none⟩ = some (.string ((rd_T23 y30006 x50_1).f0)) ∧ w'.cell? ⟨gb30022, 1, none⟩ = some (.int .i64 ((rd_T23 y30006 x50_1).f1))) (ds := []) #[false, false, false, false, false, false, false, false, false, false, false, false] (by kernel_rfl) rfl rfl ⟨(blk_cell BK30022.out 0).trans rfl, (blk_cell BK30022.out 1).trans rfl⟩ (fun hHeld => ?_); refine with_tabW columbariumlaw07_TapeTells.tab7 columbariumlaw07_TapeTells.bits7 (fun HT_ HW_ => ?_)
           generalize w39.drew = w40 at HO_48 BK30001 BK30022 HB hHeld ⊢
           refine take_ (i := 0) (N := some 58) (v := ?_) (a' := ?_) #[true, false, false, false, false, false, false, false, false, false, false, false] rfl rfl (take_ofW HT_.out HW_.out (by kernel_rfl)) (fun _ _ _ h => h) (Or.inl ⟨by rfl, ?_⟩) hHeld ?_ ?_
           rotate_left
           ·rintro w' ⟨s0, s1⟩
            go_simp
            with_reducible rfl
           rotate_left
           ·simp only [Act.put, List.setIfInBounds_toArray, List.set_cons_zero, List.set_cons_succ, i64_w, i32_w]
            rfl
           refine take_ (i := 2) (N := some 60) (v := ?_) (a' := ?_) #[true, false, true, false, false, false, false, false, false, false, false, false] rfl rfl (take_ofW HT_.out HW_.out (by kernel_rfl)) (fun _ _ _ h => h) (Or.inl ⟨by rfl, ?_⟩) hHeld ?_ ?_
           rotate_left
           ·rintro w' ⟨s0, s1⟩
            go_simp
            with_reducible rfl
           rotate_left
           ·simp only [Act.put, List.setIfInBounds_toArray, List.set_cons_zero, List.set_cons_succ, i64_w, i32_w]
            rfl
           refine one_ (i := 1) (N := some 59) #[true, true, true, false, false, false, false, false, false, false, false, false] rfl rfl (one_of HT_.out (by kernel_rfl)) (by decide) (fun K hK => ?_)
           refine goes_ Try.func16 (by kernel_rfl) rfl #[.agg #[.string ((rd_T23 y30006 x50_1).f0), .int .i64 ((rd_T23 y30006 x50_1).f1)]] (by rfl) rfl rfl (by (try simp only [List.map_toArray, List.map_cons, List.map_nil]); first | done | rfl | (simp only [List.length_drop, List.length_take]; rfl)) ?_
           with_reducible refine (tape_Right.calls ((rd_T23 y30006 x50_1).f0) ((rd_T23 y30006 x50_1).f1) t30023 _ A30.out).mono ?_
           rintro e w41 ⟨rfl, hb⟩
           refine ⟨_, rfl, ?_⟩
           have n0_ := Aside0.mk (Kd.R_below (by (with_reducible repeat (first | apply Kd.R_alloc | apply Kd.R_drewN | apply Kd.R_drew)); exact HO_48.out) hb)
           have n1_ := Aside0.mk (blk_below (g := gb30001) (o := .cells #[.string a2_0, .int .i64 a2_1] 23 (0, 0)) (by (with_reducible repeat (first | refine blk_drewN ?_ _ | refine blk_drew ?_ | refine blk_alloc ?_ _)); exact BK30001.out) hb)
           have n2_ := Aside0.mk (blk_below (g := gb30022) (o := .cells #[.string ((rd_T23 y30006 x50_1).f0), .int .i64 ((rd_T23 y30006 x50_1).f1)] 23 (0, 0)) (by (with_reducible repeat (first | refine blk_drewN ?_ _ | refine blk_drew ?_ | refine blk_alloc ?_ _)); exact BK30022.out) hb)
           have n3_ := Aside0.mk (below_step (by repeat (first | (with_reducible first | exact HB.out | apply below_alloc | apply pw_below_drewN | apply below_drew1 | refine below_set ?_ GE30001.out | refine below_set ?_ GE30022.out) | exact HB.out)) hb)
           clear HO_48
           clear BK30001
           clear BK30022
           clear HB
           have HO_48 := n0_
           have BK30001 := n1_
           have BK30022 := n2_
           have HB := n3_
           clear n0_ n1_ n2_ n3_
           (try clear hb)
           (try clear hb2)
           (try clear hk)
           (try clear hi)
           refine hK.out _ _ ⟨(blk_cell BK30022.out 0).trans rfl, (blk_cell BK30022.out 1).trans rfl⟩ (fun hHeld => ?_)
           clear hK K
           refine norm_ (a' := ?_) ?_ ?_
           rotate_left
           ·show Act.put _ (some 59) _ = _
            simp only [Act.put, List.setIfInBounds_toArray, List.set_cons_zero, List.set_cons_succ, i64_w, i32_w]
            rfl
           refine one_ (i := 3) (N := some 61) #[true, true, true, true, false, false, false, false, false, false, false, false] rfl rfl (one_of HT_.out (by kernel_rfl)) (by decide) (fun K hK => ?_)
           refine goes_ Try.func17 (by kernel_rfl) rfl #[.agg #[.string ((rd_T23 y30006 x50_1).f0), .int .i64 ((rd_T23 y30006 x50_1).f1)]] (by rfl) rfl rfl (by (try simp only [List.map_toArray, List.map_cons, List.map_nil]); first | done | rfl | (simp only [List.length_drop, List.length_take]; rfl)) ?_
           with_reducible refine (columbariumref07_Right.calls ((rd_T23 y30006 x50_1).f0) ((rd_T23 y30006 x50_1).f1) t30024 _ A31.out).mono ?_
           rintro e w42 ⟨rfl, hb⟩
           refine ⟨_, rfl, ?_⟩
           have n0_ := Aside0.mk (Kd.R_below (by (with_reducible repeat (first | apply Kd.R_alloc | apply Kd.R_drewN | apply Kd.R_drew)); exact HO_48.out) hb)
           have n1_ := Aside0.mk (blk_below (g := gb30001) (o := .cells #[.string a2_0, .int .i64 a2_1] 23 (0, 0)) (by (with_reducible repeat (first | refine blk_drewN ?_ _ | refine blk_drew ?_ | refine blk_alloc ?_ _)); exact BK30001.out) hb)
           have n2_ := Aside0.mk (blk_below (g := gb30022) (o := .cells #[.string ((rd_T23 y30006 x50_1).f0), .int .i64 ((rd_T23 y30006 x50_1).f1)] 23 (0, 0)) (by (with_reducible repeat (first | refine blk_drewN ?_ _ | refine blk_drew ?_ | refine blk_alloc ?_ _)); exact BK30022.out) hb)
           have n3_ := Aside0.mk (below_step (by repeat (first | (with_reducible first | exact HB.out | apply below_alloc | apply pw_below_drewN | apply below_drew1 | refine below_set ?_ GE30001.out | refine below_set ?_ GE30022.out) | exact HB.out)) hb)
           clear HO_48
           clear BK30001
           clear BK30022
           clear HB
           have HO_48 := n0_
           have BK30001 := n1_
           have BK30022 := n2_
           have HB := n3_
           clear n0_ n1_ n2_ n3_
           (try clear hb)
           (try clear hb2)
           (try clear hk)
           (try clear hi)
           refine hK.out _ _ ⟨(blk_cell BK30022.out 0).trans rfl, (blk_cell BK30022.out 1).trans rfl⟩ (fun hHeld => ?_)
           clear hK K
           refine norm_ (a' := ?_) ?_ ?_
           rotate_left
           ·show Act.put _ (some 61) _ = _
            simp only [Act.put, List.setIfInBounds_toArray, List.set_cons_zero, List.set_cons_succ, i64_w, i32_w]
            rfl
           refine pure_ (i := 4) (N := some 62) (v := ?_) (a' := ?_) #[true, true, true, true, true, false, false, false, false, false, false, false] rfl rfl (any_of HT_.out (by kernel_rfl)) (fun _ _ _ h => h) (Or.inl ⟨by rfl, ?_⟩) ?_ ?_
           rotate_left
           ·intro w'
            go_simp
            with_reducible rfl
           rotate_left
           ·simp only [Act.put, List.setIfInBounds_toArray, List.set_cons_zero, List.set_cons_succ, i64_w, i32_w]
            rfl
           refine pure_ (i := 5) (N := some 63) (v := ?_) (a' := ?_) #[true, true, true, true, true, true, false, false, false, false, false, false] rfl rfl (any_of HT_.out (by kernel_rfl)) (fun _ _ _ h => h) (Or.inl ⟨by rfl, ?_⟩) ?_ ?_
           rotate_left
           ·intro w'
            go_simp
            with_reducible rfl
           rotate_left
           ·simp only [Act.put, List.setIfInBounds_toArray, List.set_cons_zero, List.set_cons_succ, i64_w, i32_w]
            rfl
           refine take_ (i := 6) (N := some 64) (v := ?_) (a' := ?_) #[true, true, true, true, true, true, true, false, false, false, false, false] rfl rfl (take_ofW HT_.out HW_.out (by kernel_rfl)) (fun _ _ _ h => h) (Or.inl ⟨by rfl, ?_⟩) hHeld ?_ ?_
           rotate_left
           ·rintro w' ⟨s0, s1⟩
            go_simp
            with_reducible rfl
           rotate_left
           ·simp only [Act.put, List.setIfInBounds_toArray, List.set_cons_zero, List.set_cons_succ, i64_w, i32_w]
            rfl
           refine take_ (i := 8) (N := some 66) (v := ?_) (a' := ?_) #[true, true, true, true, true, true, true, false, true, false, false, false] rfl rfl (take_ofW HT_.out HW_.out (by kernel_rfl)) (fun _ _ _ h => h) (Or.inl ⟨by rfl, ?_⟩) hHeld ?_ ?_
           rotate_left
           ·rintro w' ⟨s0, s1⟩
            go_simp
            with_reducible rfl
           rotate_left
           ·simp only [Act.put, List.setIfInBounds_toArray, List.set_cons_zero, List.set_cons_succ, i64_w, i32_w]
            rfl
           refine one_ (i := 7) (N := some 65) #[true, true, true, true, true, true, true, true, true, false, false, false] rfl rfl (one_of HT_.out (by kernel_rfl)) (by decide) (fun K hK => ?_)
           refine goes_ Try.func18 (by kernel_rfl) rfl #[.agg #[.string ((rd_T23 y30006 x50_1).f0), .int .i64 ((rd_T23 y30006 x50_1).f1)]] (by rfl) rfl rfl (by (try simp only [List.map_toArray, List.map_cons, List.map_nil]); first | done | rfl | (simp only [List.length_drop, List.length_take]; rfl)) ?_
           with_reducible refine (tape_Left.calls ((rd_T23 y30006 x50_1).f0) ((rd_T23 y30006 x50_1).f1) t30025 _ A37.out).mono ?_
           rintro e w43 ⟨rfl, hb⟩
           refine ⟨_, rfl, ?_⟩
           have n0_ := Aside0.mk (Kd.R_below (by (with_reducible repeat (first | apply Kd.R_alloc | apply Kd.R_drewN | apply Kd.R_drew)); exact HO_48.out) hb)
           have n1_ := Aside0.mk (blk_below (g := gb30001) (o := .cells #[.string a2_0, .int .i64 a2_1] 23 (0, 0)) (by (with_reducible repeat (first | refine blk_drewN ?_ _ | refine blk_drew ?_ | refine blk_alloc ?_ _)); exact BK30001.out) hb)
           have n2_ := Aside0.mk (blk_below (g := gb30022) (o := .cells #[.string ((rd_T23 y30006 x50_1).f0), .int .i64 ((rd_T23 y30006 x50_1).f1)] 23 (0, 0)) (by (with_reducible repeat (first | refine blk_drewN ?_ _ | refine blk_drew ?_ | refine blk_alloc ?_ _)); exact BK30022.out) hb)
           have n3_ := Aside0.mk (below_step (by repeat (first | (with_reducible first | exact HB.out | apply below_alloc | apply pw_below_drewN | apply below_drew1 | refine below_set ?_ GE30001.out | refine below_set ?_ GE30022.out) | exact HB.out)) hb)
           clear HO_48
           clear BK30001
           clear BK30022
           clear HB
           have HO_48 := n0_
           have BK30001 := n1_
           have BK30022 := n2_
           have HB := n3_
           clear n0_ n1_ n2_ n3_
           (try clear hb)
           (try clear hb2)
           (try clear hk)
           (try clear hi)
           refine hK.out _ _ ⟨(blk_cell BK30022.out 0).trans rfl, (blk_cell BK30022.out 1).trans rfl⟩ (fun hHeld => ?_)
           clear hK K
           refine norm_ (a' := ?_) ?_ ?_
           rotate_left
           ·show Act.put _ (some 65) _ = _
            simp only [Act.put, List.setIfInBounds_toArray, List.set_cons_zero, List.set_cons_succ, i64_w, i32_w]
            rfl
           refine one_ (i := 9) (N := some 67) #[true, true, true, true, true, true, true, true, true, true, false, false] rfl rfl (one_of HT_.out (by kernel_rfl)) (by decide) (fun K hK => ?_)
           refine goes_ Try.func19 (by kernel_rfl) rfl #[.agg #[.string ((rd_T23 y30006 x50_1).f0), .int .i64 ((rd_T23 y30006 x50_1).f1)]] (by rfl) rfl rfl (by (try simp only [List.map_toArray, List.map_cons, List.map_nil]); first | done | rfl | (simp only [List.length_drop, List.length_take]; rfl)) ?_
           with_reducible refine (columbariumref07_Left.calls ((rd_T23 y30006 x50_1).f0) ((rd_T23 y30006 x50_1).f1) t30026 _ A38.out).mono ?_
           rintro e w44 ⟨rfl, hb⟩
           refine ⟨_, rfl, ?_⟩
           have n0_ := Aside0.mk (Kd.R_below (by (with_reducible repeat (first | apply Kd.R_alloc | apply Kd.R_drewN | apply Kd.R_drew)); exact HO_48.out) hb)
           have n1_ := Aside0.mk (blk_below (g := gb30001) (o := .cells #[.string a2_0, .int .i64 a2_1] 23 (0, 0)) (by (with_reducible repeat (first | refine blk_drewN ?_ _ | refine blk_drew ?_ | refine blk_alloc ?_ _)); exact BK30001.out) hb)
           have n2_ := Aside0.mk (blk_below (g := gb30022) (o := .cells #[.string ((rd_T23 y30006 x50_1).f0), .int .i64 ((rd_T23 y30006 x50_1).f1)] 23 (0, 0)) (by (with_reducible repeat (first | refine blk_drewN ?_ _ | refine blk_drew ?_ | refine blk_alloc ?_ _)); exact BK30022.out) hb)
           have n3_ := Aside0.mk (below_step (by repeat (first | (with_reducible first | exact HB.out | apply below_alloc | apply pw_below_drewN | apply below_drew1 | refine below_set ?_ GE30001.out | refine below_set ?_ GE30022.out) | exact HB.out)) hb)
           clear HO_48
           clear BK30001
           clear BK30022
           clear HB
           have HO_48 := n0_
           have BK30001 := n1_
           have BK30022 := n2_
           have HB := n3_
           clear n0_ n1_ n2_ n3_
           (try clear hb)
           (try clear hb2)
           (try clear hk)
           (try clear hi)
           refine hK.out _ _ ⟨(blk_cell BK30022.out 0).trans rfl, (blk_cell BK30022.out 1).trans rfl⟩ (fun hHeld => ?_)
           clear hK K
           refine norm_ (a' := ?_) ?_ ?_
           rotate_left
           ·show Act.put _ (some 67) _ = _
            simp only [Act.put, List.setIfInBounds_toArray, List.set_cons_zero, List.set_cons_succ, i64_w, i32_w]
            rfl
           refine pure_ (i := 10) (N := some 68) (v := ?_) (a' := ?_) #[true, true, true, true, true, true, true, true, true, true, true, false] rfl rfl (any_of HT_.out (by kernel_rfl)) (fun _ _ _ h => h) (Or.inl ⟨by rfl, ?_⟩) ?_ ?_
           rotate_left
           ·intro w'
            go_simp
            with_reducible rfl
           rotate_left
           ·simp only [Act.put, List.setIfInBounds_toArray, List.set_cons_zero, List.set_cons_succ, i64_w, i32_w]
            rfl
           refine pure_ (i := 11) (N := some 69) (v := ?_) (a' := ?_) #[true, true, true, true, true, true, true, true, true, true, true, true] rfl rfl (any_of HT_.out (by kernel_rfl)) (fun _ _ _ h => h) (Or.inl ⟨by rfl, ?_⟩) ?_ ?_
           rotate_left
           ·intro w'
            go_simp
            with_reducible rfl
           rotate_left
           ·simp only [Act.put, List.setIfInBounds_toArray, List.set_cons_zero, List.set_cons_succ, i64_w, i32_w]
            rfl
           refine done_ (done_of HT_.out (by kernel_rfl)) ?_
           try go_wp2
           go_meet
           case rel => exact ⟨_, ((t30025 != t30026)), (by first | rfl | (simp; done) | (simp [*]; done)), H', ⟨by have := HK1.out; first | omega | exact Nat.le_refl _⟩, ⟨by (with_reducible repeat (first | apply Kd.R_alloc | apply Kd.R_drewN | apply Kd.R_drew)); exact HO_48.out⟩, ⟨by (with_reducible repeat (first | refine blk_drewN ?_ _ | refine blk_drew ?_ | refine blk_alloc ?_ _)); exact BK30001.out⟩, ⟨by (with_reducible repeat (first | refine blk_drewN ?_ _ | refine blk_drew ?_ | refine blk_alloc ?_ _)); exact BK30022.out⟩, ⟨by repeat (first | (with_reducible first | exact HB.out | apply below_alloc | apply pw_below_drewN | apply below_drew1 | refine below_set ?_ GE30001.out | refine below_set ?_ GE30022.out) | exact HB.out)⟩⟩
         case rest =>
          clear HC26
          try clear c1
          try clear c2
          try clear p2
          try clear c3
          try clear p3
          try clear q3
          try clear hx3
          try clear c4
          try clear p6
          try clear c8
          try clear c8b0
          try clear c8b1
          try clear c9
          try clear c9b0
          try clear c9b1
          try clear c14
          try clear c15
          try clear c16
          try clear c17
          try clear c18
          try clear c19
          try clear c19b0
          try clear c20
          try clear c20b0
          try clear c21
          try clear c21b0
          try clear c22
          try clear c22b0
          try clear c22b1
          try clear c24
          try clear c28
          try clear p30
          try clear q30
          try clear hx30
          try clear c32
          try clear c32b0
          try clear c32b1
          try clear c32b2
          try clear hcz25_0
          try clear hcz25_1
          try clear hcz29_0
          try clear hcz29_1
          try clear hfz25_0
          try clear hfz25_1
          try clear hfz29_0
          try clear hfz29_1
          try clear hx30021_0
          try clear hx30021_1
          try clear p2
          try clear p30021
          try clear q30021
          obtain ⟨kq, x69_25, rfl, HA, HJ25, HO_48, BK30001, BK30022, HB⟩ := hcut
          cases kq with
          | zero => exact absurd HA.out (by simp [columbariumlaw07_TapeTells.j1])
          | succ kj25 =>
           have H := HA.out
           clear HA
           simp only [columbariumlaw07_TapeTells.j1] at H
           by_cases c45 : x69_25 = true
           ·subst c45
            have H1 : (none) = some r := by rw [if_pos rfl] at H; exact H
            clear H
            have H := H1
            clear H1
            exact absurd H (by simp)
           ·replace c45 := Bool.eq_false_iff.mpr c45
            subst c45
            have H1 : ((columbariumlaw07_pick.f a3 9).bind fun t30027 => ((some (([a3, t30027] : List Int) : List Int)).bind fun y30028 => (columbariumlaw07_TapeTells.l1 kj25 a0 a1 a3 t30002 (l4.take ((ji7) : Int).toNat) y30006 (y30006.length : Int) x50_1 y30028 (y30028.length : Int) 0 ((rd_T23 y30006 x50_1).f0) ((rd_T23 y30006 x50_1).f1)))) = some r := by rw [if_neg (show ¬ (false = true) by decide)] at H; exact H
            clear H
            have H := H1
            clear H1
            replace H := Option.bind_eq_some_iff.mp H
            obtain ⟨t30027, A460, H⟩ := H
            replace H : ((some (([a3, t30027] : List Int) : List Int)).bind fun y30028 => (columbariumlaw07_TapeTells.l1 kj25 a0 a1 a3 t30002 (l4.take ((ji7) : Int).toNat) y30006 (y30006.length : Int) x50_1 y30028 (y30028.length : Int) 0 ((rd_T23 y30006 x50_1).f0) ((rd_T23 y30006 x50_1).f1))) = some r := H
            have A46 := Aside0.mk A460
            clear A460
            obtain ⟨y30028, hy30028⟩ : ∃ y_ : List Int, y_ = (([a3, t30027] : List Int)) := ⟨_, rfl⟩
            replace H : (columbariumlaw07_TapeTells.l1 kj25 a0 a1 a3 t30002 (l4.take ((ji7) : Int).toNat) y30006 (y30006.length : Int) x50_1 y30028 (y30028.length : Int) 0 ((rd_T23 y30006 x50_1).f0) ((rd_T23 y30006 x50_1).f1)) = some r := by first | (rw [hy30028]; with_reducible exact H) | (have H2_ := (Option.bind_some _ _).symm.trans H; rw [hy30028]; with_reducible exact H2_) | (have H2_ := (Option.bind_some _ _).symm.trans H; with_reducible exact H2_) | with_reducible exact H | (rw [hy30028]; exact H) | exact H
            have Ny30028 := Aside0.mk hy30028
            clear hy30028
            have H' := Aside0.mk H
            clear H
            go_wp2_with (first | ((with_reducible refine gate_callee (f := 20) rfl ?_); refine goesL_ (some 72) rfl rfl Try.func20 (by kernel_rfl) rfl #[.int .i64 a3, .int .i64 9] rfl (by (try simp only [List.map_toArray, List.map_cons, List.map_nil]); first | done | rfl | (simp only [List.length_drop, List.length_take]; rfl)) ?_; (with_reducible refine (columbariumlaw07_pick.calls a3 9 t30027 _ A46.out).mono ?_); rintro e w' ⟨rfl, ⟨nd, rfl⟩⟩; refine ⟨_, rfl, ?_⟩) | ((with_reducible refine gate_dst (N := 73) rfl ?_); refine Kd.R_lit (Kd.int .i64) _ 3 ?hg (N := 73) ?hd (xs := ([a3, t30027] : List Int)) (inner := [.int .i64 a3, .int .i64 t30027]) (ok := fun _ => True) (okp := fun _ => True) ?hr ?hp (fun _ hk => hk) trivial (Below.refl _ _) (Nat.le_refl _) (by simp) ?_; (case hd => rfl); (case hg => rfl); (case hr => first | (go_simp; done) | (go_simp; rfl)); (case hp => exact (Reps.one (show Kd.M (Kd.int .i64) _ _ _ a3 [.int .i64 a3] from rfl) (Reps.one (show Kd.M (Kd.int .i64) _ _ _ t30027 [.int .i64 t30027] from rfl) (Reps.none _ _)))); intro v30029 w47 ho48 hb hg_ hnew_; clear hg_ hnew_; (first | rw [← Ny30028.out] at ho48 | (simp only [Int.reduceToNat] at ho48; rw [← Ny30028.out] at ho48)); have n0_ := Aside0.mk (Kd.R_below (by (with_reducible repeat (first | apply Kd.R_alloc | apply Kd.R_drewN | apply Kd.R_drew)); exact HO_48.out) hb); have n1_ := Aside0.mk (Kd.R_lower ho48 (below_size (by repeat (first | (with_reducible first | exact HB.out | apply below_alloc | apply pw_below_drewN | apply below_drew1 | refine below_set ?_ GE30001.out | refine below_set ?_ GE30022.out) | exact HB.out)))); have n2_ := Aside0.mk (blk_below (g := gb30001) (o := .cells #[.string a2_0, .int .i64 a2_1] 23 (0, 0)) (by (with_reducible repeat (first | refine blk_drewN ?_ _ | refine blk_drew ?_ | refine blk_alloc ?_ _)); exact BK30001.out) hb); have n3_ := Aside0.mk (blk_below (g := gb30022) (o := .cells #[.string ((rd_T23 y30006 x50_1).f0), .int .i64 ((rd_T23 y30006 x50_1).f1)] 23 (0, 0)) (by (with_reducible repeat (first | refine blk_drewN ?_ _ | refine blk_drew ?_ | refine blk_alloc ?_ _)); exact BK30022.out) hb); have n4_ := Aside0.mk (below_step (by repeat (first | (with_reducible first | exact HB.out | apply below_alloc | apply pw_below_drewN | apply below_drew1 | refine below_set ?_ GE30001.out | refine below_set ?_ GE30022.out) | exact HB.out)) hb); clear HO_48; clear BK30001; clear BK30022; clear HB; have HO_48 := n0_; have HO30030 := n1_; have BK30001 := n2_; have BK30022 := n3_; have HB := n4_; clear n0_ n1_ n2_ n3_ n4_; clear hb ho48; obtain ⟨Ao49, co49, eo49⟩ := Kd.R_slice HO30030.out; subst eo49))
            go_loopg [75] kj25 (fun kq v75 w' => ∃ (x75_3 : Int), v75 = .int .i64 x75_3 ∧ Aside0 (columbariumlaw07_TapeTells.l1 kq a0 a1 a3 t30002 (l4.take ((ji7) : Int).toNat) y30006 (y30006.length : Int) x50_1 y30028 (y30028.length : Int) x75_3 ((rd_T23 y30006 x50_1).f0) ((rd_T23 y30006 x50_1).f1) = some r) ∧ Aside0 (kq ≤ kj25) ∧ Aside0 (Kd.R k23 23 w' w.heap.size (fun k_ => k_ ≠ gb30001 ∧ k_ ≠ gb30022) (.slice (some ad30021) y30006.length co18) y30006) ∧ Aside0 (Kd.R (Kd.int .i64) 3 w' w.heap.size (fun _ => True) (.slice Ao49 y30028.length co49) y30028) ∧ Aside0 (w'.heap[gb30001]? = some (.cells #[.string a2_0, .int .i64 a2_1] 23 (0, 0))) ∧ Aside0 (w'.heap[gb30022]? = some (.cells #[.string ((rd_T23 y30006 x50_1).f0), .int .i64 ((rd_T23 y30006 x50_1).f1)] 23 (0, 0))) ∧ Aside0 (Below w.heap.size w w'))
            case atStart => exact ⟨(0), (by first | rfl | (simp; done) | (simp [*]; done)), H', ⟨Nat.le_refl _⟩, ⟨by (with_reducible repeat (first | apply Kd.R_alloc | apply Kd.R_drewN | apply Kd.R_drew)); exact HO_48.out⟩, ⟨by (with_reducible repeat (first | apply Kd.R_alloc | apply Kd.R_drewN | apply Kd.R_drew)); exact HO30030.out⟩, ⟨by (with_reducible repeat (first | refine blk_drewN ?_ _ | refine blk_drew ?_ | refine blk_alloc ?_ _)); exact BK30001.out⟩, ⟨by (with_reducible repeat (first | refine blk_drewN ?_ _ | refine blk_drew ?_ | refine blk_alloc ?_ _)); exact BK30022.out⟩, ⟨by repeat (first | (with_reducible first | exact HB.out | apply below_alloc | apply pw_below_drewN | apply below_drew1 | refine below_set ?_ GE30001.out | refine below_set ?_ GE30022.out) | exact HB.out)⟩⟩
            case round =>
             clear H'
             try clear c1
             try clear c2
             try clear p2
             try clear c3
             try clear p3
             try clear q3
             try clear hx3
             try clear c4
             try clear p6
             try clear c8
             try clear c8b0
             try clear c8b1
             try clear c9
             try clear c9b0
             try clear c9b1
             try clear c14
             try clear c15
             try clear c16
             try clear c17
             try clear c18
             try clear c19
             try clear c19b0
             try clear c20
             try clear c20b0
             try clear c21
             try clear c21b0
             try clear c22
             try clear c22b0
             try clear c22b1
             try clear c24
             try clear c28
             try clear p30
             try clear q30
             try clear hx30
             try clear c32
             try clear c32b0
             try clear c32b1
             try clear c32b2
             try clear c45
             try clear hcz25_0
             try clear hcz25_1
             try clear hcz29_0
             try clear hcz29_1
             try clear hfz25_0
             try clear hfz25_1
             try clear hfz29_0
             try clear hfz29_1
             try clear hx30021_0
             try clear hx30021_1
             try clear p2
             try clear p3
             try clear p30
             try clear p30021
             try clear p6
             try clear q3
             try clear q30
             try clear q30021
             obtain ⟨x75_3, rfl, HA, HK3, HO_48, HO_73, BK30001, BK30022, HB⟩ := hrel
             cases gk with
             | zero => exact absurd HA.out (by simp [columbariumlaw07_TapeTells.l1])
             | succ k3 =>
              have H := HA.out
              clear HA
              simp only [columbariumlaw07_TapeTells.l1] at H
              by_cases c50 : x75_3 < (y30028.length : Int)
              ·rw [if_pos c50] at H
               have c50b0 : decide (x75_3 < (y30028.length : Int)) = true := decide_eq_true c50
               clear c50
               by_cases c51 : 0 ≤ x75_3
               ·rw [if_pos c51] at H
                have c51b0 : decide (0 ≤ x75_3) = true := decide_eq_true c51
                clear c51
                by_cases c52 : x75_3 < (y30028.length : Int)
                ·rw [if_pos c52] at H
                 have c52b0 : decide (x75_3 < (y30028.length : Int)) = true := decide_eq_true c52
                 clear c52
                 replace H := Option.bind_eq_some_iff.mp H
                 obtain ⟨⟨t30032, t30033, t30034, t30035⟩, A530, H⟩ := H
                 replace H : ((columbariumref07_Take.f k3 ((rd_T23 y30006 x50_1).f0) ((rd_T23 y30006 x50_1).f1) (rd y30028 x75_3)).bind fun bt30037 => ((tape_Number.f k3 ((rd_T23 y30006 x50_1).f0) ((rd_T23 y30006 x50_1).f1) (rd y30028 x75_3)).bind fun bt30042 => ((columbariumref07_Number.f k3 ((rd_T23 y30006 x50_1).f0) ((rd_T23 y30006 x50_1).f1) (rd y30028 x75_3)).bind fun bt30047 => (if t30032.toList = bt30037.1.toList then (if (!(t30033.toList == bt30037.2.1.toList) || (!(t30034 == bt30037.2.2.1))) = true then (none) else (if t30035 = bt30037.2.2.2 then (if bt30042.1 = bt30047.1 then (if (!(bt30042.2.1.toList == bt30047.2.1.toList) || (!(bt30042.2.2.1 == bt30047.2.2.1))) = true then (none) else (if bt30042.2.2.2 = bt30047.2.2.2 then (columbariumlaw07_TapeTells.l1 k3 a0 a1 a3 t30002 (l4.take ((ji7) : Int).toNat) y30006 (y30006.length : Int) x50_1 y30028 (y30028.length : Int) (wrap64 (x75_3 + 1)) ((rd_T23 y30006 x50_1).f0) ((rd_T23 y30006 x50_1).f1)) else (none))) else (none)) else (none))) else (none))))) = some r := H
                 have A53 := Aside0.mk A530
                 clear A530
                 replace H := Option.bind_eq_some_iff.mp H
                 obtain ⟨⟨t30037, t30038, t30039, t30040⟩, A540, H⟩ := H
                 replace H : ((tape_Number.f k3 ((rd_T23 y30006 x50_1).f0) ((rd_T23 y30006 x50_1).f1) (rd y30028 x75_3)).bind fun bt30042 => ((columbariumref07_Number.f k3 ((rd_T23 y30006 x50_1).f0) ((rd_T23 y30006 x50_1).f1) (rd y30028 x75_3)).bind fun bt30047 => (if t30032.toList = t30037.toList then (if (!(t30033.toList == t30038.toList) || (!(t30034 == t30039))) = true then (none) else (if t30035 = t30040 then (if bt30042.1 = bt30047.1 then (if (!(bt30042.2.1.toList == bt30047.2.1.toList) || (!(bt30042.2.2.1 == bt30047.2.2.1))) = true then (none) else (if bt30042.2.2.2 = bt30047.2.2.2 then (columbariumlaw07_TapeTells.l1 k3 a0 a1 a3 t30002 (l4.take ((ji7) : Int).toNat) y30006 (y30006.length : Int) x50_1 y30028 (y30028.length : Int) (wrap64 (x75_3 + 1)) ((rd_T23 y30006 x50_1).f0) ((rd_T23 y30006 x50_1).f1)) else (none))) else (none)) else (none))) else (none)))) = some r := H
                 have A54 := Aside0.mk A540
                 clear A540
                 replace H := Option.bind_eq_some_iff.mp H
                 obtain ⟨⟨t30042, t30043, t30044, t30045⟩, A550, H⟩ := H
                 replace H : ((columbariumref07_Number.f k3 ((rd_T23 y30006 x50_1).f0) ((rd_T23 y30006 x50_1).f1) (rd y30028 x75_3)).bind fun bt30047 => (if t30032.toList = t30037.toList then (if (!(t30033.toList == t30038.toList) || (!(t30034 == t30039))) = true then (none) else (if t30035 = t30040 then (if t30042 = bt30047.1 then (if (!(t30043.toList == bt30047.2.1.toList) || (!(t30044 == bt30047.2.2.1))) = true then (none) else (if t30045 = bt30047.2.2.2 then (columbariumlaw07_TapeTells.l1 k3 a0 a1 a3 t30002 (l4.take ((ji7) : Int).toNat) y30006 (y30006.length : Int) x50_1 y30028 (y30028.length : Int) (wrap64 (x75_3 + 1)) ((rd_T23 y30006 x50_1).f0) ((rd_T23 y30006 x50_1).f1)) else (none))) else (none)) else (none))) else (none))) = some r := H
                 have A55 := Aside0.mk A550
                 clear A550
                 replace H := Option.bind_eq_some_iff.mp H
                 obtain ⟨⟨t30047, t30048, t30049, t30050⟩, A560, H⟩ := H
                 replace H : (if t30032.toList = t30037.toList then (if (!(t30033.toList == t30038.toList) || (!(t30034 == t30039))) = true then (none) else (if t30035 = t30040 then (if t30042 = t30047 then (if (!(t30043.toList == t30048.toList) || (!(t30044 == t30049))) = true then (none) else (if t30045 = t30050 then (columbariumlaw07_TapeTells.l1 k3 a0 a1 a3 t30002 (l4.take ((ji7) : Int).toNat) y30006 (y30006.length : Int) x50_1 y30028 (y30028.length : Int) (wrap64 (x75_3 + 1)) ((rd_T23 y30006 x50_1).f0) ((rd_T23 y30006 x50_1).f1)) else (none))) else (none)) else (none))) else (none)) = some r := H
                 have A56 := Aside0.mk A560
                 clear A560
                 by_cases c57 : t30032.toList = t30037.toList
                 ·rw [if_pos c57] at H
                  have c57b0 : (t30032.toList == t30037.toList) = true := beq_iff_eq.mpr c57
                  have c57b1 : (t30032.toList != t30037.toList) = false := bne_eq_false_iff_eq.mpr c57
                  clear c57
                  by_cases c58 : (!(t30033.toList == t30038.toList) || (!(t30034 == t30039))) = true
                  ·rw [if_pos c58] at H
                   exact absurd H (by simp)
                  ·rw [if_neg c58] at H
                   have c58b0 : (!(t30033.toList == t30038.toList) || (!(t30034 == t30039))) = false := by simpa using c58
                   clear c58
                   by_cases c59 : t30035 = t30040
                   ·rw [if_pos c59] at H
                    have c59b0 : (t30035 == t30040) = true := beq_iff_eq.mpr c59
                    have c59b1 : (t30035 != t30040) = false := bne_eq_false_iff_eq.mpr c59
                    clear c59
                    by_cases c60 : t30042 = t30047
                    ·rw [if_pos c60] at H
                     have c60b0 : (t30042 == t30047) = true := beq_iff_eq.mpr c60
                     have c60b1 : (t30042 != t30047) = false := bne_eq_false_iff_eq.mpr c60
                     clear c60
                     by_cases c61 : (!(t30043.toList == t30048.toList) || (!(t30044 == t30049))) = true
                     ·rw [if_pos c61] at H
                      exact absurd H (by simp)
                     ·rw [if_neg c61] at H
                      have c61b0 : (!(t30043.toList == t30048.toList) || (!(t30044 == t30049))) = false := by simpa using c61
                      clear c61
                      by_cases c62 : t30045 = t30050
                      ·rw [if_pos c62] at H
                       have c62b0 : (t30045 == t30050) = true := beq_iff_eq.mpr c62
                       have c62b1 : (t30045 != t30050) = false := bne_eq_false_iff_eq.mpr c62
                       clear c62
                       have H' := Aside0.mk H
                       clear H
                       have p30031 : 0 ≤ (x75_3 : Int) := of_decide_eq_true (by first | (with_reducible assumption) | assumption)
                       have q30031 : x75_3 < (y30028.length : Int) := of_decide_eq_true (by first | (with_reducible assumption) | assumption)
                       obtain ⟨ad30031, e30031, hx30031_0⟩ := Kd.at_int (Kd.R_reads' HO_73.out).2.2 x75_3 p30031 q30031
                       cases e30031
                       replace p30031 := eq_true p30031
                       replace q30031 := eq_true q30031
                       have hnb63 := NB30022_30001.out
                       have hnc63 := NB30001_30022.out
                       have hcz64_0 : wr.cell? ⟨gb30022, 0, none⟩ = some (.string ((rd_T23 y30006 x50_1).f0)) := (blk_cell BK30022.out 0).trans rfl
                       have hcz64_1 : wr.cell? ⟨gb30022, 1, none⟩ = some (.int .i64 ((rd_T23 y30006 x50_1).f1)) := (blk_cell BK30022.out 1).trans rfl
                       have hfz64_0 := blk_frozen BK30022.out 0
                       have hfz64_1 := blk_frozen BK30022.out 1
                       go_wp2_with (first | ((with_reducible refine gate_callee (f := 21) rfl ?_); refine goesL_ (some 82) rfl rfl Try.func21 (by kernel_rfl) rfl #[.agg #[.string ((rd_T23 y30006 x50_1).f0), .int .i64 ((rd_T23 y30006 x50_1).f1)], .int .i64 (rd y30028 x75_3)] rfl (by (try simp only [List.map_toArray, List.map_cons, List.map_nil]); first | done | rfl | (simp only [List.length_drop, List.length_take]; rfl)) ?_; (with_reducible refine (tape_Take.calls k3 ((rd_T23 y30006 x50_1).f0) ((rd_T23 y30006 x50_1).f1) (rd y30028 x75_3) t30032 t30033 t30034 t30035 _ A53.out).mono ?_); rintro e w65 ⟨rfl, hb⟩; refine ⟨_, rfl, ?_⟩; have n0_ := Aside0.mk (Kd.R_below (by (with_reducible repeat (first | apply Kd.R_alloc | apply Kd.R_drewN | apply Kd.R_drew)); exact HO_48.out) hb); have n1_ := Aside0.mk (Kd.R_below (by (with_reducible repeat (first | apply Kd.R_alloc | apply Kd.R_drewN | apply Kd.R_drew)); exact HO_73.out) hb); have n2_ := Aside0.mk (blk_below (g := gb30001) (o := .cells #[.string a2_0, .int .i64 a2_1] 23 (0, 0)) (by (with_reducible repeat (first | refine blk_drewN ?_ _ | refine blk_drew ?_ | refine blk_alloc ?_ _)); exact BK30001.out) hb); have n3_ := Aside0.mk (blk_below (g := gb30022) (o := .cells #[.string ((rd_T23 y30006 x50_1).f0), .int .i64 ((rd_T23 y30006 x50_1).f1)] 23 (0, 0)) (by (with_reducible repeat (first | refine blk_drewN ?_ _ | refine blk_drew ?_ | refine blk_alloc ?_ _)); exact BK30022.out) hb); have n4_ := Aside0.mk (below_step (by repeat (first | (with_reducible first | exact HB.out | apply below_alloc | apply pw_below_drewN | apply below_drew1 | refine below_set ?_ GE30001.out | refine below_set ?_ GE30022.out) | exact HB.out)) hb); clear HO_48; clear HO_73; clear BK30001; clear BK30022; clear HB; have HO_48 := n0_; have HO_73 := n1_; have BK30001 := n2_; have BK30022 := n3_; have HB := n4_; clear n0_ n1_ n2_ n3_ n4_; (try clear hb); (try clear hb2); (try clear hk); (try clear hi)) | ((with_reducible refine gate_dst (N := 18) rfl ?_); refine box_event ?hg (N := 18) ?hd (cs := #[.string (⟨#[]⟩ : ByteArray), .int .i64 0]) (t := 23) ?hr ?_; (case hd => rfl); (case hg => rfl); (case hr => first | (go_simp; done) | (go_simp; rfl)); intro gb30036 hg w66 hbox hb; have n0_ := Aside0.mk (Kd.R_below (Kd.R_elderB (by (with_reducible repeat (first | apply Kd.R_alloc | apply Kd.R_drewN | apply Kd.R_drew)); exact HO_48.out) gb30036 (Nat.le_of_eq hg.symm)) hb); have n1_ := Aside0.mk (Kd.R_below (by (with_reducible repeat (first | apply Kd.R_alloc | apply Kd.R_drewN | apply Kd.R_drew)); exact HO_73.out) hb); have n2_ := Aside0.mk (blk_below (g := gb30001) (o := .cells #[.string a2_0, .int .i64 a2_1] 23 (0, 0)) (by (with_reducible repeat (first | refine blk_drewN ?_ _ | refine blk_drew ?_ | refine blk_alloc ?_ _)); exact BK30001.out) hb); have n3_ := Aside0.mk (blk_below (g := gb30022) (o := .cells #[.string ((rd_T23 y30006 x50_1).f0), .int .i64 ((rd_T23 y30006 x50_1).f1)] 23 (0, 0)) (by (with_reducible repeat (first | refine blk_drewN ?_ _ | refine blk_drew ?_ | refine blk_alloc ?_ _)); exact BK30022.out) hb); have n4_ := Aside0.mk (below_step (by repeat (first | (with_reducible first | exact HB.out | apply below_alloc | apply pw_below_drewN | apply below_drew1 | refine below_set ?_ GE30001.out | refine below_set ?_ GE30022.out) | exact HB.out)) hb); have n5_ := Aside0.mk (hbox); have n6_ := Aside0.mk ((by rw [hg]; exact (below_size (by repeat (first | (with_reducible first | exact HB.out | apply below_alloc | apply pw_below_drewN | apply below_drew1 | refine below_set ?_ GE30001.out | refine below_set ?_ GE30022.out) | exact HB.out))) : w.heap.size ≤ gb30036)); have n7_ := Aside0.mk ((by rw [hg]; exact (below_size (by repeat (first | (with_reducible first | exact HB.out | apply below_alloc | apply pw_below_drewN | apply below_drew1 | refine below_set ?_ GE30001.out | refine below_set ?_ GE30022.out) | exact HB.out))) : w.heap.size ≤ gb30036)); have n8_ := Aside0.mk ((by rw [hg]; exact Nat.ne_of_lt (blk_lt (g := gb30001) (o := .cells #[.string a2_0, .int .i64 a2_1] 23 (0, 0)) (by (with_reducible repeat (first | refine blk_drewN ?_ _ | refine blk_drew ?_ | refine blk_alloc ?_ _)); exact BK30001.out)) : gb30001 ≠ gb30036)); have n9_ := Aside0.mk ((by rw [hg]; exact Nat.ne_of_gt (blk_lt (g := gb30001) (o := .cells #[.string a2_0, .int .i64 a2_1] 23 (0, 0)) (by (with_reducible repeat (first | refine blk_drewN ?_ _ | refine blk_drew ?_ | refine blk_alloc ?_ _)); exact BK30001.out)) : gb30036 ≠ gb30001)); have n10_ := Aside0.mk ((by rw [hg]; exact Nat.ne_of_lt (blk_lt (g := gb30022) (o := .cells #[.string ((rd_T23 y30006 x50_1).f0), .int .i64 ((rd_T23 y30006 x50_1).f1)] 23 (0, 0)) (by (with_reducible repeat (first | refine blk_drewN ?_ _ | refine blk_drew ?_ | refine blk_alloc ?_ _)); exact BK30022.out)) : gb30022 ≠ gb30036)); have n11_ := Aside0.mk ((by rw [hg]; exact Nat.ne_of_gt (blk_lt (g := gb30022) (o := .cells #[.string ((rd_T23 y30006 x50_1).f0), .int .i64 ((rd_T23 y30006 x50_1).f1)] 23 (0, 0)) (by (with_reducible repeat (first | refine blk_drewN ?_ _ | refine blk_drew ?_ | refine blk_alloc ?_ _)); exact BK30022.out)) : gb30036 ≠ gb30022)); clear HO_48; clear HO_73; clear BK30001; clear BK30022; clear HB; have HO_48 := n0_; have HO_73 := n1_; have BK30001 := n2_; have BK30022 := n3_; have HB := n4_; have BK30036 := n5_; have GW30036 := n6_; have GE30036 := n7_; have NB30001_30036 := n8_; have NB30036_30001 := n9_; have NB30022_30036 := n10_; have NB30036_30022 := n11_; clear n0_ n1_ n2_ n3_ n4_ n5_ n6_ n7_ n8_ n9_ n10_ n11_; clear hb hbox hg; have hnb67 := NB30036_30001.out; have hnc67 := NB30001_30036.out; have hnb68 := NB30036_30022.out; have hnc68 := NB30022_30036.out; have hcz69_0 : w66.cell? ⟨gb30036, 0, none⟩ = some (.string (⟨#[]⟩ : ByteArray)) := (blk_cell BK30036.out 0).trans rfl; have hcz69_1 : w66.cell? ⟨gb30036, 1, none⟩ = some (.int .i64 0) := (blk_cell BK30036.out 1).trans rfl; have hfz69_0 := blk_frozen BK30036.out 0; have hfz69_1 := blk_frozen BK30036.out 1; have hcz70_0 : w66.cell? ⟨gb30022, 0, none⟩ = some (.string ((rd_T23 y30006 x50_1).f0)) := (blk_cell BK30022.out 0).trans rfl; have hcz70_1 : w66.cell? ⟨gb30022, 1, none⟩ = some (.int .i64 ((rd_T23 y30006 x50_1).f1)) := (blk_cell BK30022.out 1).trans rfl; have hfz70_0 := blk_frozen BK30022.out 0; have hfz70_1 := blk_frozen BK30022.out 1) | ((with_reducible refine gate_callee (f := 22) rfl ?_); refine goesL_ (some 89) rfl rfl Try.func22 (by kernel_rfl) rfl #[.agg #[.string ((rd_T23 y30006 x50_1).f0), .int .i64 ((rd_T23 y30006 x50_1).f1)], .int .i64 (rd y30028 x75_3)] rfl (by (try simp only [List.map_toArray, List.map_cons, List.map_nil]); first | done | rfl | (simp only [List.length_drop, List.length_take]; rfl)) ?_; (with_reducible refine (columbariumref07_Take.calls k3 ((rd_T23 y30006 x50_1).f0) ((rd_T23 y30006 x50_1).f1) (rd y30028 x75_3) t30037 t30038 t30039 t30040 _ A54.out).mono ?_); rintro e w71 ⟨rfl, hb⟩; refine ⟨_, rfl, ?_⟩; have n0_ := Aside0.mk (Kd.R_below (by (with_reducible repeat (first | apply Kd.R_alloc | apply Kd.R_drewN | apply Kd.R_drew)); exact (Kd.R_mono (Kd.R_far (p := ⟨gb30036, 1, none⟩) (Kd.R_far (p := ⟨gb30036, 0, none⟩) (Kd.R_mono HO_48.out (fun k_ hk => (⟨hk, hk.2⟩ : _ ∧ k_ ≠ gb30036))) (fun _ hk => hk.2) (.string t30033)) (fun _ hk => hk.2) (.int .i64 t30034)) (fun _ h_ => h_.1))) hb); have n1_ := Aside0.mk (Kd.R_below (by (with_reducible repeat (first | apply Kd.R_alloc | apply Kd.R_drewN | apply Kd.R_drew)); exact (Kd.R_mono (Kd.R_far (p := ⟨gb30036, 1, none⟩) (Kd.R_far (p := ⟨gb30036, 0, none⟩) (Kd.R_types HO_73.out BK30036.out (by decide)) (fun _ hk => hk.2) (.string t30033)) (fun _ hk => hk.2) (.int .i64 t30034)) (fun _ h_ => h_.1))) hb); have n2_ := Aside0.mk (blk_below (g := gb30001) (o := .cells #[.string a2_0, .int .i64 a2_1] 23 (0, 0)) (by (with_reducible repeat (first | refine blk_drewN ?_ _ | refine blk_drew ?_ | refine blk_alloc ?_ _)); refine blk_far ?_ NB30001_30036.out _; (with_reducible repeat (first | refine blk_drewN ?_ _ | refine blk_drew ?_ | refine blk_alloc ?_ _)); refine blk_far ?_ NB30001_30036.out _; (with_reducible repeat (first | refine blk_drewN ?_ _ | refine blk_drew ?_ | refine blk_alloc ?_ _)); exact BK30001.out) hb); have n3_ := Aside0.mk (blk_below (g := gb30022) (o := .cells #[.string ((rd_T23 y30006 x50_1).f0), .int .i64 ((rd_T23 y30006 x50_1).f1)] 23 (0, 0)) (by (with_reducible repeat (first | refine blk_drewN ?_ _ | refine blk_drew ?_ | refine blk_alloc ?_ _)); refine blk_far ?_ NB30022_30036.out _; (with_reducible repeat (first | refine blk_drewN ?_ _ | refine blk_drew ?_ | refine blk_alloc ?_ _)); refine blk_far ?_ NB30022_30036.out _; (with_reducible repeat (first | refine blk_drewN ?_ _ | refine blk_drew ?_ | refine blk_alloc ?_ _)); exact BK30022.out) hb); have n4_ := Aside0.mk (blk_below (g := gb30036) (o := .cells #[.string t30033, .int .i64 t30034] 23 (0, 0)) (by (with_reducible repeat (first | refine blk_drewN ?_ _ | refine blk_drew ?_ | refine blk_alloc ?_ _)); refine blk_put (cs := #[.string t30033, .int .i64 0]) ?_ 1 _ rfl; (with_reducible repeat (first | refine blk_drewN ?_ _ | refine blk_drew ?_ | refine blk_alloc ?_ _)); refine blk_put (cs := #[.string (⟨#[]⟩ : ByteArray), .int .i64 0]) ?_ 0 _ rfl; (with_reducible repeat (first | refine blk_drewN ?_ _ | refine blk_drew ?_ | refine blk_alloc ?_ _)); exact BK30036.out) hb); have n5_ := Aside0.mk (below_step (by repeat (first | (with_reducible first | exact HB.out | apply below_alloc | apply pw_below_drewN | apply below_drew1 | refine below_set ?_ GE30001.out | refine below_set ?_ GE30022.out | refine below_set ?_ GE30036.out) | exact HB.out)) hb); clear HO_48; clear HO_73; clear BK30001; clear BK30022; clear BK30036; clear HB; have HO_48 := n0_; have HO_73 := n1_; have BK30001 := n2_; have BK30022 := n3_; have BK30036 := n4_; have HB := n5_; clear n0_ n1_ n2_ n3_ n4_ n5_; (try clear hb); (try clear hb2); (try clear hk); (try clear hi)) | ((with_reducible refine gate_dst (N := 21) rfl ?_); refine box_event ?hg (N := 21) ?hd (cs := #[.string (⟨#[]⟩ : ByteArray), .int .i64 0]) (t := 23) ?hr ?_; (case hd => rfl); (case hg => rfl); (case hr => first | (go_simp; done) | (go_simp; rfl)); intro gb30041 hg w72 hbox hb; have n0_ := Aside0.mk (Kd.R_below (Kd.R_elderB (by (with_reducible repeat (first | apply Kd.R_alloc | apply Kd.R_drewN | apply Kd.R_drew)); exact HO_48.out) gb30041 (Nat.le_of_eq hg.symm)) hb); have n1_ := Aside0.mk (Kd.R_below (by (with_reducible repeat (first | apply Kd.R_alloc | apply Kd.R_drewN | apply Kd.R_drew)); exact HO_73.out) hb); have n2_ := Aside0.mk (blk_below (g := gb30001) (o := .cells #[.string a2_0, .int .i64 a2_1] 23 (0, 0)) (by (with_reducible repeat (first | refine blk_drewN ?_ _ | refine blk_drew ?_ | refine blk_alloc ?_ _)); exact BK30001.out) hb); have n3_ := Aside0.mk (blk_below (g := gb30022) (o := .cells #[.string ((rd_T23 y30006 x50_1).f0), .int .i64 ((rd_T23 y30006 x50_1).f1)] 23 (0, 0)) (by (with_reducible repeat (first | refine blk_drewN ?_ _ | refine blk_drew ?_ | refine blk_alloc ?_ _)); exact BK30022.out) hb); have n4_ := Aside0.mk (blk_below (g := gb30036) (o := .cells #[.string t30033, .int .i64 t30034] 23 (0, 0)) (by (with_reducible repeat (first | refine blk_drewN ?_ _ | refine blk_drew ?_ | refine blk_alloc ?_ _)); exact BK30036.out) hb); have n5_ := Aside0.mk (below_step (by repeat (first | (with_reducible first | exact HB.out | apply below_alloc | apply pw_below_drewN | apply below_drew1 | refine below_set ?_ GE30001.out | refine below_set ?_ GE30022.out | refine below_set ?_ GE30036.out) | exact HB.out)) hb); have n6_ := Aside0.mk (hbox); have n7_ := Aside0.mk ((by rw [hg]; exact (below_size (by repeat (first | (with_reducible first | exact HB.out | apply below_alloc | apply pw_below_drewN | apply below_drew1 | refine below_set ?_ GE30001.out | refine below_set ?_ GE30022.out | refine below_set ?_ GE30036.out) | exact HB.out))) : w.heap.size ≤ gb30041)); have n8_ := Aside0.mk ((by rw [hg]; exact (below_size (by repeat (first | (with_reducible first | exact HB.out | apply below_alloc | apply pw_below_drewN | apply below_drew1 | refine below_set ?_ GE30001.out | refine below_set ?_ GE30022.out | refine below_set ?_ GE30036.out) | exact HB.out))) : w.heap.size ≤ gb30041)); have n9_ := Aside0.mk ((by rw [hg]; exact Nat.ne_of_lt (blk_lt (g := gb30001) (o := .cells #[.string a2_0, .int .i64 a2_1] 23 (0, 0)) (by (with_reducible repeat (first | refine blk_drewN ?_ _ | refine blk_drew ?_ | refine blk_alloc ?_ _)); exact BK30001.out)) : gb30001 ≠ gb30041)); have n10_ := Aside0.mk ((by rw [hg]; exact Nat.ne_of_gt (blk_lt (g := gb30001) (o := .cells #[.string a2_0, .int .i64 a2_1] 23 (0, 0)) (by (with_reducible repeat (first | refine blk_drewN ?_ _ | refine blk_drew ?_ | refine blk_alloc ?_ _)); exact BK30001.out)) : gb30041 ≠ gb30001)); have n11_ := Aside0.mk ((by rw [hg]; exact Nat.ne_of_lt (blk_lt (g := gb30022) (o := .cells #[.string ((rd_T23 y30006 x50_1).f0), .int .i64 ((rd_T23 y30006 x50_1).f1)] 23 (0, 0)) (by (with_reducible repeat (first | refine blk_drewN ?_ _ | refine blk_drew ?_ | refine blk_alloc ?_ _)); exact BK30022.out)) : gb30022 ≠ gb30041)); have n12_ := Aside0.mk ((by rw [hg]; exact Nat.ne_of_gt (blk_lt (g := gb30022) (o := .cells #[.string ((rd_T23 y30006 x50_1).f0), .int .i64 ((rd_T23 y30006 x50_1).f1)] 23 (0, 0)) (by (with_reducible repeat (first | refine blk_drewN ?_ _ | refine blk_drew ?_ | refine blk_alloc ?_ _)); exact BK30022.out)) : gb30041 ≠ gb30022)); have n13_ := Aside0.mk ((by rw [hg]; exact Nat.ne_of_lt (blk_lt (g := gb30036) (o := .cells #[.string t30033, .int .i64 t30034] 23 (0, 0)) (by (with_reducible repeat (first | refine blk_drewN ?_ _ | refine blk_drew ?_ | refine blk_alloc ?_ _)); exact BK30036.out)) : gb30036 ≠ gb30041)); have n14_ := Aside0.mk ((by rw [hg]; exact Nat.ne_of_gt (blk_lt (g := gb30036) (o := .cells #[.string t30033, .int .i64 t30034] 23 (0, 0)) (by (with_reducible repeat (first | refine blk_drewN ?_ _ | refine blk_drew ?_ | refine blk_alloc ?_ _)); exact BK30036.out)) : gb30041 ≠ gb30036)); clear HO_48; clear HO_73; clear BK30001; clear BK30022; clear BK30036; clear HB; have HO_48 := n0_; have HO_73 := n1_; have BK30001 := n2_; have BK30022 := n3_; have BK30036 := n4_; have HB := n5_; have BK30041 := n6_; have GW30041 := n7_; have GE30041 := n8_; have NB30001_30041 := n9_; have NB30041_30001 := n10_; have NB30022_30041 := n11_; have NB30041_30022 := n12_; have NB30036_30041 := n13_; have NB30041_30036 := n14_; clear n0_ n1_ n2_ n3_ n4_ n5_ n6_ n7_ n8_ n9_ n10_ n11_ n12_ n13_ n14_; clear hb hbox hg; have hnb73 := NB30041_30001.out; have hnc73 := NB30001_30041.out; have hnb74 := NB30041_30022.out; have hnc74 := NB30022_30041.out; have hnb75 := NB30041_30036.out; have hnc75 := NB30036_30041.out; have hcz76_0 : w72.cell? ⟨gb30041, 0, none⟩ = some (.string (⟨#[]⟩ : ByteArray)) := (blk_cell BK30041.out 0).trans rfl; have hcz76_1 : w72.cell? ⟨gb30041, 1, none⟩ = some (.int .i64 0) := (blk_cell BK30041.out 1).trans rfl; have hfz76_0 := blk_frozen BK30041.out 0; have hfz76_1 := blk_frozen BK30041.out 1; have hcz77_0 : w72.cell? ⟨gb30022, 0, none⟩ = some (.string ((rd_T23 y30006 x50_1).f0)) := (blk_cell BK30022.out 0).trans rfl; have hcz77_1 : w72.cell? ⟨gb30022, 1, none⟩ = some (.int .i64 ((rd_T23 y30006 x50_1).f1)) := (blk_cell BK30022.out 1).trans rfl; have hfz77_0 := blk_frozen BK30022.out 0; have hfz77_1 := blk_frozen BK30022.out 1) | ((with_reducible refine gate_callee (f := 23) rfl ?_); refine goesL_ (some 96) rfl rfl Try.func23 (by kernel_rfl) rfl #[.agg #[.string ((rd_T23 y30006 x50_1).f0), .int .i64 ((rd_T23 y30006 x50_1).f1)], .int .i64 (rd y30028 x75_3)] rfl (by (try simp only [List.map_toArray, List.map_cons, List.map_nil]); first | done | rfl | (simp only [List.length_drop, List.length_take]; rfl)) ?_; (with_reducible refine (tape_Number.calls k3 ((rd_T23 y30006 x50_1).f0) ((rd_T23 y30006 x50_1).f1) (rd y30028 x75_3) t30042 t30043 t30044 t30045 _ A55.out).mono ?_); rintro e w78 ⟨rfl, hb⟩; refine ⟨_, rfl, ?_⟩; have n0_ := Aside0.mk (Kd.R_below (by (with_reducible repeat (first | apply Kd.R_alloc | apply Kd.R_drewN | apply Kd.R_drew)); exact (Kd.R_mono (Kd.R_far (p := ⟨gb30041, 1, none⟩) (Kd.R_far (p := ⟨gb30041, 0, none⟩) (Kd.R_mono HO_48.out (fun k_ hk => (⟨hk, hk.2⟩ : _ ∧ k_ ≠ gb30041))) (fun _ hk => hk.2) (.string t30038)) (fun _ hk => hk.2) (.int .i64 t30039)) (fun _ h_ => h_.1))) hb); have n1_ := Aside0.mk (Kd.R_below (by (with_reducible repeat (first | apply Kd.R_alloc | apply Kd.R_drewN | apply Kd.R_drew)); exact (Kd.R_mono (Kd.R_far (p := ⟨gb30041, 1, none⟩) (Kd.R_far (p := ⟨gb30041, 0, none⟩) (Kd.R_types HO_73.out BK30041.out (by decide)) (fun _ hk => hk.2) (.string t30038)) (fun _ hk => hk.2) (.int .i64 t30039)) (fun _ h_ => h_.1))) hb); have n2_ := Aside0.mk (blk_below (g := gb30001) (o := .cells #[.string a2_0, .int .i64 a2_1] 23 (0, 0)) (by (with_reducible repeat (first | refine blk_drewN ?_ _ | refine blk_drew ?_ | refine blk_alloc ?_ _)); refine blk_far ?_ NB30001_30041.out _; (with_reducible repeat (first | refine blk_drewN ?_ _ | refine blk_drew ?_ | refine blk_alloc ?_ _)); refine blk_far ?_ NB30001_30041.out _; (with_reducible repeat (first | refine blk_drewN ?_ _ | refine blk_drew ?_ | refine blk_alloc ?_ _)); exact BK30001.out) hb); have n3_ := Aside0.mk (blk_below (g := gb30022) (o := .cells #[.string ((rd_T23 y30006 x50_1).f0), .int .i64 ((rd_T23 y30006 x50_1).f1)] 23 (0, 0)) (by (with_reducible repeat (first | refine blk_drewN ?_ _ | refine blk_drew ?_ | refine blk_alloc ?_ _)); refine blk_far ?_ NB30022_30041.out _; (with_reducible repeat (first | refine blk_drewN ?_ _ | refine blk_drew ?_ | refine blk_alloc ?_ _)); refine blk_far ?_ NB30022_30041.out _; (with_reducible repeat (first | refine blk_drewN ?_ _ | refine blk_drew ?_ | refine blk_alloc ?_ _)); exact BK30022.out) hb); have n4_ := Aside0.mk (blk_below (g := gb30036) (o := .cells #[.string t30033, .int .i64 t30034] 23 (0, 0)) (by (with_reducible repeat (first | refine blk_drewN ?_ _ | refine blk_drew ?_ | refine blk_alloc ?_ _)); refine blk_far ?_ NB30036_30041.out _; (with_reducible repeat (first | refine blk_drewN ?_ _ | refine blk_drew ?_ | refine blk_alloc ?_ _)); refine blk_far ?_ NB30036_30041.out _; (with_reducible repeat (first | refine blk_drewN ?_ _ | refine blk_drew ?_ | refine blk_alloc ?_ _)); exact BK30036.out) hb); have n5_ := Aside0.mk (blk_below (g := gb30041) (o := .cells #[.string t30038, .int .i64 t30039] 23 (0, 0)) (by (with_reducible repeat (first | refine blk_drewN ?_ _ | refine blk_drew ?_ | refine blk_alloc ?_ _)); refine blk_put (cs := #[.string t30038, .int .i64 0]) ?_ 1 _ rfl; (with_reducible repeat (first | refine blk_drewN ?_ _ | refine blk_drew ?_ | refine blk_alloc ?_ _)); refine blk_put (cs := #[.string (⟨#[]⟩ : ByteArray), .int .i64 0]) ?_ 0 _ rfl; (with_reducible repeat (first | refine blk_drewN ?_ _ | refine blk_drew ?_ | refine blk_alloc ?_ _)); exact BK30041.out) hb); have n6_ := Aside0.mk (below_step (by repeat (first | (with_reducible first | exact HB.out | apply below_alloc | apply pw_below_drewN | apply below_drew1 | refine below_set ?_ GE30001.out | refine below_set ?_ GE30022.out | refine below_set ?_ GE30036.out | refine below_set ?_ GE30041.out) | exact HB.out)) hb); clear HO_48; clear HO_73; clear BK30001; clear BK30022; clear BK30036; clear BK30041; clear HB; have HO_48 := n0_; have HO_73 := n1_; have BK30001 := n2_; have BK30022 := n3_; have BK30036 := n4_; have BK30041 := n5_; have HB := n6_; clear n0_ n1_ n2_ n3_ n4_ n5_ n6_; (try clear hb); (try clear hb2); (try clear hk); (try clear hi)) | ((with_reducible refine gate_dst (N := 24) rfl ?_); refine box_event ?hg (N := 24) ?hd (cs := #[.string (⟨#[]⟩ : ByteArray), .int .i64 0]) (t := 23) ?hr ?_; (case hd => rfl); (case hg => rfl); (case hr => first | (go_simp; done) | (go_simp; rfl)); intro gb30046 hg w79 hbox hb; have n0_ := Aside0.mk (Kd.R_below (Kd.R_elderB (by (with_reducible repeat (first | apply Kd.R_alloc | apply Kd.R_drewN | apply Kd.R_drew)); exact HO_48.out) gb30046 (Nat.le_of_eq hg.symm)) hb); have n1_ := Aside0.mk (Kd.R_below (by (with_reducible repeat (first | apply Kd.R_alloc | apply Kd.R_drewN | apply Kd.R_drew)); exact HO_73.out) hb); have n2_ := Aside0.mk (blk_below (g := gb30001) (o := .cells #[.string a2_0, .int .i64 a2_1] 23 (0, 0)) (by (with_reducible repeat (first | refine blk_drewN ?_ _ | refine blk_drew ?_ | refine blk_alloc ?_ _)); exact BK30001.out) hb); have n3_ := Aside0.mk (blk_below (g := gb30022) (o := .cells #[.string ((rd_T23 y30006 x50_1).f0), .int .i64 ((rd_T23 y30006 x50_1).f1)] 23 (0, 0)) (by (with_reducible repeat (first | refine blk_drewN ?_ _ | refine blk_drew ?_ | refine blk_alloc ?_ _)); exact BK30022.out) hb); have n4_ := Aside0.mk (blk_below (g := gb30036) (o := .cells #[.string t30033, .int .i64 t30034] 23 (0, 0)) (by (with_reducible repeat (first | refine blk_drewN ?_ _ | refine blk_drew ?_ | refine blk_alloc ?_ _)); exact BK30036.out) hb); have n5_ := Aside0.mk (blk_below (g := gb30041) (o := .cells #[.string t30038, .int .i64 t30039] 23 (0, 0)) (by (with_reducible repeat (first | refine blk_drewN ?_ _ | refine blk_drew ?_ | refine blk_alloc ?_ _)); exact BK30041.out) hb); have n6_ := Aside0.mk (below_step (by repeat (first | (with_reducible first | exact HB.out | apply below_alloc | apply pw_below_drewN | apply below_drew1 | refine below_set ?_ GE30001.out | refine below_set ?_ GE30022.out | refine below_set ?_ GE30036.out | refine below_set ?_ GE30041.out) | exact HB.out)) hb); have n7_ := Aside0.mk (hbox); have n8_ := Aside0.mk ((by rw [hg]; exact (below_size (by repeat (first | (with_reducible first | exact HB.out | apply below_alloc | apply pw_below_drewN | apply below_drew1 | refine below_set ?_ GE30001.out | refine below_set ?_ GE30022.out | refine below_set ?_ GE30036.out | refine below_set ?_ GE30041.out) | exact HB.out))) : w.heap.size ≤ gb30046)); have n9_ := Aside0.mk ((by rw [hg]; exact (below_size (by repeat (first | (with_reducible first | exact HB.out | apply below_alloc | apply pw_below_drewN | apply below_drew1 | refine below_set ?_ GE30001.out | refine below_set ?_ GE30022.out | refine below_set ?_ GE30036.out | refine below_set ?_ GE30041.out) | exact HB.out))) : w.heap.size ≤ gb30046)); have n10_ := Aside0.mk ((by rw [hg]; exact Nat.ne_of_lt (blk_lt (g := gb30001) (o := .cells #[.string a2_0, .int .i64 a2_1] 23 (0, 0)) (by (with_reducible repeat (first | refine blk_drewN ?_ _ | refine blk_drew ?_ | refine blk_alloc ?_ _)); exact BK30001.out)) : gb30001 ≠ gb30046)); have n11_ := Aside0.mk ((by rw [hg]; exact Nat.ne_of_gt (blk_lt (g := gb30001) (o := .cells #[.string a2_0, .int .i64 a2_1] 23 (0, 0)) (by (with_reducible repeat (first | refine blk_drewN ?_ _ | refine blk_drew ?_ | refine blk_alloc ?_ _)); exact BK30001.out)) : gb30046 ≠ gb30001)); have n12_ := Aside0.mk ((by rw [hg]; exact Nat.ne_of_lt (blk_lt (g := gb30022) (o := .cells #[.string ((rd_T23 y30006 x50_1).f0), .int .i64 ((rd_T23 y30006 x50_1).f1)] 23 (0, 0)) (by (with_reducible repeat (first | refine blk_drewN ?_ _ | refine blk_drew ?_ | refine blk_alloc ?_ _)); exact BK30022.out)) : gb30022 ≠ gb30046)); have n13_ := Aside0.mk ((by rw [hg]; exact Nat.ne_of_gt (blk_lt (g := gb30022) (o := .cells #[.string ((rd_T23 y30006 x50_1).f0), .int .i64 ((rd_T23 y30006 x50_1).f1)] 23 (0, 0)) (by (with_reducible repeat (first | refine blk_drewN ?_ _ | refine blk_drew ?_ | refine blk_alloc ?_ _)); exact BK30022.out)) : gb30046 ≠ gb30022)); have n14_ := Aside0.mk ((by rw [hg]; exact Nat.ne_of_lt (blk_lt (g := gb30036) (o := .cells #[.string t30033, .int .i64 t30034] 23 (0, 0)) (by (with_reducible repeat (first | refine blk_drewN ?_ _ | refine blk_drew ?_ | refine blk_alloc ?_ _)); exact BK30036.out)) : gb30036 ≠ gb30046)); have n15_ := Aside0.mk ((by rw [hg]; exact Nat.ne_of_gt (blk_lt (g := gb30036) (o := .cells #[.string t30033, .int .i64 t30034] 23 (0, 0)) (by (with_reducible repeat (first | refine blk_drewN ?_ _ | refine blk_drew ?_ | refine blk_alloc ?_ _)); exact BK30036.out)) : gb30046 ≠ gb30036)); have n16_ := Aside0.mk ((by rw [hg]; exact Nat.ne_of_lt (blk_lt (g := gb30041) (o := .cells #[.string t30038, .int .i64 t30039] 23 (0, 0)) (by (with_reducible repeat (first | refine blk_drewN ?_ _ | refine blk_drew ?_ | refine blk_alloc ?_ _)); exact BK30041.out)) : gb30041 ≠ gb30046)); have n17_ := Aside0.mk ((by rw [hg]; exact Nat.ne_of_gt (blk_lt (g := gb30041) (o := .cells #[.string t30038, .int .i64 t30039] 23 (0, 0)) (by (with_reducible repeat (first | refine blk_drewN ?_ _ | refine blk_drew ?_ | refine blk_alloc ?_ _)); exact BK30041.out)) : gb30046 ≠ gb30041)); clear HO_48; clear HO_73; clear BK30001; clear BK30022; clear BK30036; clear BK30041; clear HB; have HO_48 := n0_; have HO_73 := n1_; have BK30001 := n2_; have BK30022 := n3_; have BK30036 := n4_; have BK30041 := n5_; have HB := n6_; have BK30046 := n7_; have GW30046 := n8_; have GE30046 := n9_; have NB30001_30046 := n10_; have NB30046_30001 := n11_; have NB30022_30046 := n12_; have NB30046_30022 := n13_; have NB30036_30046 := n14_; have NB30046_30036 := n15_; have NB30041_30046 := n16_; have NB30046_30041 := n17_; clear n0_ n1_ n2_ n3_ n4_ n5_ n6_ n7_ n8_ n9_ n10_ n11_ n12_ n13_ n14_ n15_ n16_ n17_; clear hb hbox hg; have hnb80 := NB30046_30001.out; have hnc80 := NB30001_30046.out; have hnb81 := NB30046_30022.out; have hnc81 := NB30022_30046.out; have hnb82 := NB30046_30036.out; have hnc82 := NB30036_30046.out; have hnb83 := NB30046_30041.out; have hnc83 := NB30041_30046.out; have hcz84_0 : w79.cell? ⟨gb30046, 0, none⟩ = some (.string (⟨#[]⟩ : ByteArray)) := (blk_cell BK30046.out 0).trans rfl; have hcz84_1 : w79.cell? ⟨gb30046, 1, none⟩ = some (.int .i64 0) := (blk_cell BK30046.out 1).trans rfl; have hfz84_0 := blk_frozen BK30046.out 0; have hfz84_1 := blk_frozen BK30046.out 1; have hcz85_0 : w79.cell? ⟨gb30022, 0, none⟩ = some (.string ((rd_T23 y30006 x50_1).f0)) := (blk_cell BK30022.out 0).trans rfl; have hcz85_1 : w79.cell? ⟨gb30022, 1, none⟩ = some (.int .i64 ((rd_T23 y30006 x50_1).f1)) := (blk_cell BK30022.out 1).trans rfl; have hfz85_0 := blk_frozen BK30022.out 0; have hfz85_1 := blk_frozen BK30022.out 1) | ((with_reducible refine gate_callee (f := 24) rfl ?_); refine goesL_ (some 103) rfl rfl Try.func24 (by kernel_rfl) rfl #[.agg #[.string ((rd_T23 y30006 x50_1).f0), .int .i64 ((rd_T23 y30006 x50_1).f1)], .int .i64 (rd y30028 x75_3)] rfl (by (try simp only [List.map_toArray, List.map_cons, List.map_nil]); first | done | rfl | (simp only [List.length_drop, List.length_take]; rfl)) ?_; (with_reducible refine (columbariumref07_Number.calls k3 ((rd_T23 y30006 x50_1).f0) ((rd_T23 y30006 x50_1).f1) (rd y30028 x75_3) t30047 t30048 t30049 t30050 _ A56.out).mono ?_); rintro e w86 ⟨rfl, hb⟩; refine ⟨_, rfl, ?_⟩; have n0_ := Aside0.mk (Kd.R_below (by (with_reducible repeat (first | apply Kd.R_alloc | apply Kd.R_drewN | apply Kd.R_drew)); exact (Kd.R_mono (Kd.R_far (p := ⟨gb30046, 1, none⟩) (Kd.R_far (p := ⟨gb30046, 0, none⟩) (Kd.R_mono HO_48.out (fun k_ hk => (⟨hk, hk.2⟩ : _ ∧ k_ ≠ gb30046))) (fun _ hk => hk.2) (.string t30043)) (fun _ hk => hk.2) (.int .i64 t30044)) (fun _ h_ => h_.1))) hb); have n1_ := Aside0.mk (Kd.R_below (by (with_reducible repeat (first | apply Kd.R_alloc | apply Kd.R_drewN | apply Kd.R_drew)); exact (Kd.R_mono (Kd.R_far (p := ⟨gb30046, 1, none⟩) (Kd.R_far (p := ⟨gb30046, 0, none⟩) (Kd.R_types HO_73.out BK30046.out (by decide)) (fun _ hk => hk.2) (.string t30043)) (fun _ hk => hk.2) (.int .i64 t30044)) (fun _ h_ => h_.1))) hb); have n2_ := Aside0.mk (blk_below (g := gb30001) (o := .cells #[.string a2_0, .int .i64 a2_1] 23 (0, 0)) (by (with_reducible repeat (first | refine blk_drewN ?_ _ | refine blk_drew ?_ | refine blk_alloc ?_ _)); refine blk_far ?_ NB30001_30046.out _; (with_reducible repeat (first | refine blk_drewN ?_ _ | refine blk_drew ?_ | refine blk_alloc ?_ _)); refine blk_far ?_ NB30001_30046.out _; (with_reducible repeat (first | refine blk_drewN ?_ _ | refine blk_drew ?_ | refine blk_alloc ?_ _)); exact BK30001.out) hb); have n3_ := Aside0.mk (blk_below (g := gb30022) (o := .cells #[.string ((rd_T23 y30006 x50_1).f0), .int .i64 ((rd_T23 y30006 x50_1).f1)] 23 (0, 0)) (by (with_reducible repeat (first | refine blk_drewN ?_ _ | refine blk_drew ?_ | refine blk_alloc ?_ _)); refine blk_far ?_ NB30022_30046.out _; (with_reducible repeat (first | refine blk_drewN ?_ _ | refine blk_drew ?_ | refine blk_alloc ?_ _)); refine blk_far ?_ NB30022_30046.out _; (with_reducible repeat (first | refine blk_drewN ?_ _ | refine blk_drew ?_ | refine blk_alloc ?_ _)); exact BK30022.out) hb); have n4_ := Aside0.mk (blk_below (g := gb30036) (o := .cells #[.string t30033, .int .i64 t30034] 23 (0, 0)) (by (with_reducible repeat (first | refine blk_drewN ?_ _ | refine blk_drew ?_ | refine blk_alloc ?_ _)); refine blk_far ?_ NB30036_30046.out _; (with_reducible repeat (first | refine blk_drewN ?_ _ | refine blk_drew ?_ | refine blk_alloc ?_ _)); refine blk_far ?_ NB30036_30046.out _; (with_reducible repeat (first | refine blk_drewN ?_ _ | refine blk_drew ?_ | refine blk_alloc ?_ _)); exact BK30036.out) hb); have n5_ := Aside0.mk (blk_below (g := gb30041) (o := .cells #[.string t30038, .int .i64 t30039] 23 (0, 0)) (by (with_reducible repeat (first | refine blk_drewN ?_ _ | refine blk_drew ?_ | refine blk_alloc ?_ _)); refine blk_far ?_ NB30041_30046.out _; (with_reducible repeat (first | refine blk_drewN ?_ _ | refine blk_drew ?_ | refine blk_alloc ?_ _)); refine blk_far ?_ NB30041_30046.out _; (with_reducible repeat (first | refine blk_drewN ?_ _ | refine blk_drew ?_ | refine blk_alloc ?_ _)); exact BK30041.out) hb); have n6_ := Aside0.mk (blk_below (g := gb30046) (o := .cells #[.string t30043, .int .i64 t30044] 23 (0, 0)) (by (with_reducible repeat (first | refine blk_drewN ?_ _ | refine blk_drew ?_ | refine blk_alloc ?_ _)); refine blk_put (cs := #[.string t30043, .int .i64 0]) ?_ 1 _ rfl; (with_reducible repeat (first | refine blk_drewN ?_ _ | refine blk_drew ?_ | refine blk_alloc ?_ _)); refine blk_put (cs := #[.string (⟨#[]⟩ : ByteArray), .int .i64 0]) ?_ 0 _ rfl; (with_reducible repeat (first | refine blk_drewN ?_ _ | refine blk_drew ?_ | refine blk_alloc ?_ _)); exact BK30046.out) hb); have n7_ := Aside0.mk (below_step (by repeat (first | (with_reducible first | exact HB.out | apply below_alloc | apply pw_below_drewN | apply below_drew1 | refine below_set ?_ GE30001.out | refine below_set ?_ GE30022.out | refine below_set ?_ GE30036.out | refine below_set ?_ GE30041.out | refine below_set ?_ GE30046.out) | exact HB.out)) hb); clear HO_48; clear HO_73; clear BK30001; clear BK30022; clear BK30036; clear BK30041; clear BK30046; clear HB; have HO_48 := n0_; have HO_73 := n1_; have BK30001 := n2_; have BK30022 := n3_; have BK30036 := n4_; have BK30041 := n5_; have BK30046 := n6_; have HB := n7_; clear n0_ n1_ n2_ n3_ n4_ n5_ n6_ n7_; (try clear hb); (try clear hb2); (try clear hk); (try clear hi)) | ((with_reducible refine gate_dst (N := 27) rfl ?_); refine box_event ?hg (N := 27) ?hd (cs := #[.string (⟨#[]⟩ : ByteArray), .int .i64 0]) (t := 23) ?hr ?_; (case hd => rfl); (case hg => rfl); (case hr => first | (go_simp; done) | (go_simp; rfl)); intro gb30051 hg w87 hbox hb; have n0_ := Aside0.mk (Kd.R_below (Kd.R_elderB (by (with_reducible repeat (first | apply Kd.R_alloc | apply Kd.R_drewN | apply Kd.R_drew)); exact HO_48.out) gb30051 (Nat.le_of_eq hg.symm)) hb); have n1_ := Aside0.mk (Kd.R_below (by (with_reducible repeat (first | apply Kd.R_alloc | apply Kd.R_drewN | apply Kd.R_drew)); exact HO_73.out) hb); have n2_ := Aside0.mk (blk_below (g := gb30001) (o := .cells #[.string a2_0, .int .i64 a2_1] 23 (0, 0)) (by (with_reducible repeat (first | refine blk_drewN ?_ _ | refine blk_drew ?_ | refine blk_alloc ?_ _)); exact BK30001.out) hb); have n3_ := Aside0.mk (blk_below (g := gb30022) (o := .cells #[.string ((rd_T23 y30006 x50_1).f0), .int .i64 ((rd_T23 y30006 x50_1).f1)] 23 (0, 0)) (by (with_reducible repeat (first | refine blk_drewN ?_ _ | refine blk_drew ?_ | refine blk_alloc ?_ _)); exact BK30022.out) hb); have n4_ := Aside0.mk (blk_below (g := gb30036) (o := .cells #[.string t30033, .int .i64 t30034] 23 (0, 0)) (by (with_reducible repeat (first | refine blk_drewN ?_ _ | refine blk_drew ?_ | refine blk_alloc ?_ _)); exact BK30036.out) hb); have n5_ := Aside0.mk (blk_below (g := gb30041) (o := .cells #[.string t30038, .int .i64 t30039] 23 (0, 0)) (by (with_reducible repeat (first | refine blk_drewN ?_ _ | refine blk_drew ?_ | refine blk_alloc ?_ _)); exact BK30041.out) hb); have n6_ := Aside0.mk (blk_below (g := gb30046) (o := .cells #[.string t30043, .int .i64 t30044] 23 (0, 0)) (by (with_reducible repeat (first | refine blk_drewN ?_ _ | refine blk_drew ?_ | refine blk_alloc ?_ _)); exact BK30046.out) hb); have n7_ := Aside0.mk (below_step (by repeat (first | (with_reducible first | exact HB.out | apply below_alloc | apply pw_below_drewN | apply below_drew1 | refine below_set ?_ GE30001.out | refine below_set ?_ GE30022.out | refine below_set ?_ GE30036.out | refine below_set ?_ GE30041.out | refine below_set ?_ GE30046.out) | exact HB.out)) hb); have n8_ := Aside0.mk (hbox); have n9_ := Aside0.mk ((by rw [hg]; exact (below_size (by repeat (first | (with_reducible first | exact HB.out | apply below_alloc | apply pw_below_drewN | apply below_drew1 | refine below_set ?_ GE30001.out | refine below_set ?_ GE30022.out | refine below_set ?_ GE30036.out | refine below_set ?_ GE30041.out | refine below_set ?_ GE30046.out) | exact HB.out))) : w.heap.size ≤ gb30051)); have n10_ := Aside0.mk ((by rw [hg]; exact (below_size (by repeat (first | (with_reducible first | exact HB.out | apply below_alloc | apply pw_below_drewN | apply below_drew1 | refine below_set ?_ GE30001.out | refine below_set ?_ GE30022.out | refine below_set ?_ GE30036.out | refine below_set ?_ GE30041.out | refine below_set ?_ GE30046.out) | exact HB.out))) : w.heap.size ≤ gb30051)); have n11_ := Aside0.mk ((by rw [hg]; exact Nat.ne_of_lt (blk_lt (g := gb30001) (o := .cells #[.string a2_0, .int .i64 a2_1] 23 (0, 0)) (by (with_reducible repeat (first | refine blk_drewN ?_ _ | refine blk_drew ?_ | refine blk_alloc ?_ _)); exact BK30001.out)) : gb30001 ≠ gb30051)); have n12_ := Aside0.mk ((by rw [hg]; exact Nat.ne_of_gt (blk_lt (g := gb30001) (o := .cells #[.string a2_0, .int .i64 a2_1] 23 (0, 0)) (by (with_reducible repeat (first | refine blk_drewN ?_ _ | refine blk_drew ?_ | refine blk_alloc ?_ _)); exact BK30001.out)) : gb30051 ≠ gb30001)); have n13_ := Aside0.mk ((by rw [hg]; exact Nat.ne_of_lt (blk_lt (g := gb30022) (o := .cells #[.string ((rd_T23 y30006 x50_1).f0), .int .i64 ((rd_T23 y30006 x50_1).f1)] 23 (0, 0)) (by (with_reducible repeat (first | refine blk_drewN ?_ _ | refine blk_drew ?_ | refine blk_alloc ?_ _)); exact BK30022.out)) : gb30022 ≠ gb30051)); have n14_ := Aside0.mk ((by rw [hg]; exact Nat.ne_of_gt (blk_lt (g := gb30022) (o := .cells #[.string ((rd_T23 y30006 x50_1).f0), .int .i64 ((rd_T23 y30006 x50_1).f1)] 23 (0, 0)) (by (with_reducible repeat (first | refine blk_drewN ?_ _ | refine blk_drew ?_ | refine blk_alloc ?_ _)); exact BK30022.out)) : gb30051 ≠ gb30022)); have n15_ := Aside0.mk ((by rw [hg]; exact Nat.ne_of_lt (blk_lt (g := gb30036) (o := .cells #[.string t30033, .int .i64 t30034] 23 (0, 0)) (by (with_reducible repeat (first | refine blk_drewN ?_ _ | refine blk_drew ?_ | refine blk_alloc ?_ _)); exact BK30036.out)) : gb30036 ≠ gb30051)); have n16_ := Aside0.mk ((by rw [hg]; exact Nat.ne_of_gt (blk_lt (g := gb30036) (o := .cells #[.string t30033, .int .i64 t30034] 23 (0, 0)) (by (with_reducible repeat (first | refine blk_drewN ?_ _ | refine blk_drew ?_ | refine blk_alloc ?_ _)); exact BK30036.out)) : gb30051 ≠ gb30036)); have n17_ := Aside0.mk ((by rw [hg]; exact Nat.ne_of_lt (blk_lt (g := gb30041) (o := .cells #[.string t30038, .int .i64 t30039] 23 (0, 0)) (by (with_reducible repeat (first | refine blk_drewN ?_ _ | refine blk_drew ?_ | refine blk_alloc ?_ _)); exact BK30041.out)) : gb30041 ≠ gb30051)); have n18_ := Aside0.mk ((by rw [hg]; exact Nat.ne_of_gt (blk_lt (g := gb30041) (o := .cells #[.string t30038, .int .i64 t30039] 23 (0, 0)) (by (with_reducible repeat (first | refine blk_drewN ?_ _ | refine blk_drew ?_ | refine blk_alloc ?_ _)); exact BK30041.out)) : gb30051 ≠ gb30041)); have n19_ := Aside0.mk ((by rw [hg]; exact Nat.ne_of_lt (blk_lt (g := gb30046) (o := .cells #[.string t30043, .int .i64 t30044] 23 (0, 0)) (by (with_reducible repeat (first | refine blk_drewN ?_ _ | refine blk_drew ?_ | refine blk_alloc ?_ _)); exact BK30046.out)) : gb30046 ≠ gb30051)); have n20_ := Aside0.mk ((by rw [hg]; exact Nat.ne_of_gt (blk_lt (g := gb30046) (o := .cells #[.string t30043, .int .i64 t30044] 23 (0, 0)) (by (with_reducible repeat (first | refine blk_drewN ?_ _ | refine blk_drew ?_ | refine blk_alloc ?_ _)); exact BK30046.out)) : gb30051 ≠ gb30046)); clear HO_48; clear HO_73; clear BK30001; clear BK30022; clear BK30036; clear BK30041; clear BK30046; clear HB; have HO_48 := n0_; have HO_73 := n1_; have BK30001 := n2_; have BK30022 := n3_; have BK30036 := n4_; have BK30041 := n5_; have BK30046 := n6_; have HB := n7_; have BK30051 := n8_; have GW30051 := n9_; have GE30051 := n10_; have NB30001_30051 := n11_; have NB30051_30001 := n12_; have NB30022_30051 := n13_; have NB30051_30022 := n14_; have NB30036_30051 := n15_; have NB30051_30036 := n16_; have NB30041_30051 := n17_; have NB30051_30041 := n18_; have NB30046_30051 := n19_; have NB30051_30046 := n20_; clear n0_ n1_ n2_ n3_ n4_ n5_ n6_ n7_ n8_ n9_ n10_ n11_ n12_ n13_ n14_ n15_ n16_ n17_ n18_ n19_ n20_; clear hb hbox hg; have hnb88 := NB30051_30001.out; have hnc88 := NB30001_30051.out; have hnb89 := NB30051_30022.out; have hnc89 := NB30022_30051.out; have hnb90 := NB30051_30036.out; have hnc90 := NB30036_30051.out; have hnb91 := NB30051_30041.out; have hnc91 := NB30041_30051.out; have hnb92 := NB30051_30046.out; have hnc92 := NB30046_30051.out; have hcz93_0 : w87.cell? ⟨gb30051, 0, none⟩ = some (.string (⟨#[]⟩ : ByteArray)) := (blk_cell BK30051.out 0).trans rfl; have hcz93_1 : w87.cell? ⟨gb30051, 1, none⟩ = some (.int .i64 0) := (blk_cell BK30051.out 1).trans rfl; have hfz93_0 := blk_frozen BK30051.out 0; have hfz93_1 := blk_frozen BK30051.out 1; have hcz94_0 : w87.cell? ⟨gb30036, 0, none⟩ = some (.string t30033) := (blk_cell BK30036.out 0).trans rfl; have hcz94_1 : w87.cell? ⟨gb30036, 1, none⟩ = some (.int .i64 t30034) := (blk_cell BK30036.out 1).trans rfl; have hfz94_0 := blk_frozen BK30036.out 0; have hfz94_1 := blk_frozen BK30036.out 1; have hcz95_0 : w87.cell? ⟨gb30041, 0, none⟩ = some (.string t30038) := (blk_cell BK30041.out 0).trans rfl; have hcz95_1 : w87.cell? ⟨gb30041, 1, none⟩ = some (.int .i64 t30039) := (blk_cell BK30041.out 1).trans rfl; have hfz95_0 := blk_frozen BK30041.out 0; have hfz95_1 := blk_frozen BK30041.out 1; have hcz96_0 : w87.cell? ⟨gb30046, 0, none⟩ = some (.string t30043) := (blk_cell BK30046.out 0).trans rfl; have hcz96_1 : w87.cell? ⟨gb30046, 1, none⟩ = some (.int .i64 t30044) := (blk_cell BK30046.out 1).trans rfl; have hfz96_0 := blk_frozen BK30046.out 0; have hfz96_1 := blk_frozen BK30046.out 1))
                       go_roundg k3
                       case measure => have := HK1.out; have := HJ25.out; have := HK3.out; omega
                       case rel => exact ⟨(wrap64 (x75_3 + 1)), (by first | rfl | (simp; done) | (simp [*]; done)), H', ⟨by have := HK1.out; have := HJ25.out; have := HK3.out; omega⟩, ⟨by (with_reducible repeat (first | apply Kd.R_alloc | apply Kd.R_drewN | apply Kd.R_drew)); exact Kd.R_mono (Kd.R_far (p := ⟨gb30051, 1, none⟩) (Kd.R_far (p := ⟨gb30051, 0, none⟩) (Kd.R_mono HO_48.out (fun k_ hk => (⟨hk, hk.2⟩ : _ ∧ k_ ≠ gb30051))) (fun _ hk => hk.2) (.string t30048)) (fun _ hk => hk.2) (.int .i64 t30049)) (fun _ hk => ⟨hk.1.1.1.1.1.1, hk.1.1.1.1.1.2⟩)⟩, ⟨by (with_reducible repeat (first | apply Kd.R_alloc | apply Kd.R_drewN | apply Kd.R_drew)); exact Kd.R_mono (Kd.R_far (p := ⟨gb30051, 1, none⟩) (Kd.R_far (p := ⟨gb30051, 0, none⟩) (Kd.R_types HO_73.out BK30051.out (by decide)) (fun _ hk => hk.2) (.string t30048)) (fun _ hk => hk.2) (.int .i64 t30049)) (fun _ hk => trivial)⟩, ⟨by (with_reducible repeat (first | refine blk_drewN ?_ _ | refine blk_drew ?_ | refine blk_alloc ?_ _)); refine blk_far ?_ NB30001_30051.out _; (with_reducible repeat (first | refine blk_drewN ?_ _ | refine blk_drew ?_ | refine blk_alloc ?_ _)); refine blk_far ?_ NB30001_30051.out _; (with_reducible repeat (first | refine blk_drewN ?_ _ | refine blk_drew ?_ | refine blk_alloc ?_ _)); exact BK30001.out⟩, ⟨by (with_reducible repeat (first | refine blk_drewN ?_ _ | refine blk_drew ?_ | refine blk_alloc ?_ _)); refine blk_far ?_ NB30022_30051.out _; (with_reducible repeat (first | refine blk_drewN ?_ _ | refine blk_drew ?_ | refine blk_alloc ?_ _)); refine blk_far ?_ NB30022_30051.out _; (with_reducible repeat (first | refine blk_drewN ?_ _ | refine blk_drew ?_ | refine blk_alloc ?_ _)); exact BK30022.out⟩, ⟨by repeat (first | (with_reducible first | exact HB.out | apply below_alloc | apply pw_below_drewN | apply below_drew1 | refine below_set ?_ GE30001.out | refine below_set ?_ GE30022.out | refine below_set ?_ GE30036.out | refine below_set ?_ GE30041.out | refine below_set ?_ GE30046.out | refine below_set ?_ GE30051.out) | exact HB.out)⟩⟩
                      ·rw [if_neg c62] at H
                       exact absurd H (by simp)
                    ·rw [if_neg c60] at H
                     exact absurd H (by simp)
                   ·rw [if_neg c59] at H
                    exact absurd H (by simp)
                 ·rw [if_neg c57] at H
                  exact absurd H (by simp)
                ·rw [if_neg c52] at H
                 exact absurd H (by simp)
               ·rw [if_neg c51] at H
                exact absurd H (by simp)
              ·rw [if_neg c50] at H
               have c50b0 : decide (x75_3 < (y30028.length : Int)) = false := decide_eq_false c50
               clear c50
               replace H := Option.bind_eq_some_iff.mp H
               obtain ⟨⟨t30052, t30055, t30056, t30057⟩, A970, H⟩ := H
               replace H : ((columbariumref07_Turn.f k3 ((rd_T23 y30006 x50_1).f0) ((rd_T23 y30006 x50_1).f1) (l4.take ((ji7) : Int).toNat)).bind fun bt30059 => ((columbariumref07_Ints.f k3 t30052 bt30059.1).bind fun t30066 => (if t30066 = true then (if (!(t30055.toList == bt30059.2.1.toList) || (!(t30056 == bt30059.2.2.1))) = true then (none) else (if t30057 = bt30059.2.2.2 then (columbariumlaw07_TapeTells.l0 k3 a0 a1 a3 t30002 (l4.take ((ji7) : Int).toNat) y30006 (y30006.length : Int) (wrap64 (x50_1 + 1))) else (none))) else (none)))) = some r := H
               have A97 := Aside0.mk A970
               clear A970
               replace H := Option.bind_eq_some_iff.mp H
               obtain ⟨⟨t30059, t30062, t30063, t30064⟩, A980, H⟩ := H
               replace H : ((columbariumref07_Ints.f k3 t30052 t30059).bind fun t30066 => (if t30066 = true then (if (!(t30055.toList == t30062.toList) || (!(t30056 == t30063))) = true then (none) else (if t30057 = t30064 then (columbariumlaw07_TapeTells.l0 k3 a0 a1 a3 t30002 (l4.take ((ji7) : Int).toNat) y30006 (y30006.length : Int) (wrap64 (x50_1 + 1))) else (none))) else (none))) = some r := H
               have A98 := Aside0.mk A980
               clear A980
               replace H := Option.bind_eq_some_iff.mp H
               obtain ⟨t30066, A990, H⟩ := H
               replace H : (if t30066 = true then (if (!(t30055.toList == t30062.toList) || (!(t30056 == t30063))) = true then (none) else (if t30057 = t30064 then (columbariumlaw07_TapeTells.l0 k3 a0 a1 a3 t30002 (l4.take ((ji7) : Int).toNat) y30006 (y30006.length : Int) (wrap64 (x50_1 + 1))) else (none))) else (none)) = some r := H
               have A99 := Aside0.mk A990
               clear A990
               by_cases c100 : t30066 = true
               ·subst c100
                have H1 : (if (!(t30055.toList == t30062.toList) || (!(t30056 == t30063))) = true then (none) else (if t30057 = t30064 then (columbariumlaw07_TapeTells.l0 k3 a0 a1 a3 t30002 (l4.take ((ji7) : Int).toNat) y30006 (y30006.length : Int) (wrap64 (x50_1 + 1))) else (none))) = some r := by rw [if_pos rfl] at H; exact H
                clear H
                have H := H1
                clear H1
                by_cases c101 : (!(t30055.toList == t30062.toList) || (!(t30056 == t30063))) = true
                ·rw [if_pos c101] at H
                 exact absurd H (by simp)
                ·rw [if_neg c101] at H
                 have c101b0 : (!(t30055.toList == t30062.toList) || (!(t30056 == t30063))) = false := by simpa using c101
                 clear c101
                 by_cases c102 : t30057 = t30064
                 ·rw [if_pos c102] at H
                  have c102b0 : (t30057 == t30064) = true := beq_iff_eq.mpr c102
                  have c102b1 : (t30057 != t30064) = false := bne_eq_false_iff_eq.mpr c102
                  clear c102
                  have H' := Aside0.mk H
                  clear H
                  have hnb103 := NB30022_30001.out
                  have hnc103 := NB30001_30022.out
                  have hcz104_0 : wr.cell? ⟨gb30022, 0, none⟩ = some (.string ((rd_T23 y30006 x50_1).f0)) := (blk_cell BK30022.out 0).trans rfl
                  have hcz104_1 : wr.cell? ⟨gb30022, 1, none⟩ = some (.int .i64 ((rd_T23 y30006 x50_1).f1)) := (blk_cell BK30022.out 1).trans rfl
                  have hfz104_0 := blk_frozen BK30022.out 0
                  have hfz104_1 := blk_frozen BK30022.out 1
                  go_wp2_with (first | ((with_reducible refine gate_callee (f := 25) rfl ?_); refine goesL_ (some 139) rfl rfl Try.func25 (by kernel_rfl) rfl #[.agg #[.string ((rd_T23 y30006 x50_1).f0), .int .i64 ((rd_T23 y30006 x50_1).f1)], .slice A4 (l4.take ((ji7) : Int).toNat).length c4] rfl (by (try simp only [List.map_toArray, List.map_cons, List.map_nil]); first | done | (rw [show (l4.take ((ji7) : Int).toNat).length = (ji7).toNat from (by rw [List.length_take]; have h_ : ((ji7) : Int) ≤ (l4.length : Int) := (by first | exact of_decide_eq_true (by first | (with_reducible assumption) | assumption) | omega | (rw [← hji7]; unfold mn; (repeat' split) <;> omega)); omega)] <;> rfl) | (simp only [hji7]; rfl) | rfl | (simp only [List.length_drop, List.length_take]; rfl)) ?_; (with_reducible refine (tape_Turn.calls ((rd_T23 y30006 x50_1).f0) ((rd_T23 y30006 x50_1).f1) _ _ (l4.take ((ji7) : Int).toNat) t30052 t30055 t30056 t30057 _ ?side1 ?side2 A97.out).mono ?_); (case side1 => repeat (first | exact (Kd.C_below HR30003.out HB.out) | (with_reducible refine Kd.C_alloc ?_ _) | (with_reducible refine Kd.C_drewN ?_ _) | (with_reducible refine Kd.C_drew ?_))); (case side2 => exact HC30003.out); rintro e w105 ⟨v30053, rfl, ho0, hb⟩; refine ⟨_, rfl, ?_⟩; have n0_ := Aside0.mk (Kd.R_below (by (with_reducible repeat (first | apply Kd.R_alloc | apply Kd.R_drewN | apply Kd.R_drew)); exact HO_48.out) hb); have n1_ := Aside0.mk (Kd.R_elder' (by (with_reducible repeat (first | apply Kd.R_alloc | apply Kd.R_drewN | apply Kd.R_drew)); exact HO_73.out) (Kd.R_base ho0) hb); have n2_ := Aside0.mk (Kd.R_lower (Kd.R_new' ho0 (Kd.R_lt (by (with_reducible repeat (first | apply Kd.R_alloc | apply Kd.R_drewN | apply Kd.R_drew)); exact HO_73.out))) (below_size (by repeat (first | (with_reducible first | exact HB.out | apply below_alloc | apply pw_below_drewN | apply below_drew1 | refine below_set ?_ GE30001.out | refine below_set ?_ GE30022.out) | exact HB.out)))); have n3_ := Aside0.mk (blk_below (g := gb30001) (o := .cells #[.string a2_0, .int .i64 a2_1] 23 (0, 0)) (by (with_reducible repeat (first | refine blk_drewN ?_ _ | refine blk_drew ?_ | refine blk_alloc ?_ _)); exact BK30001.out) hb); have n4_ := Aside0.mk (blk_below (g := gb30022) (o := .cells #[.string ((rd_T23 y30006 x50_1).f0), .int .i64 ((rd_T23 y30006 x50_1).f1)] 23 (0, 0)) (by (with_reducible repeat (first | refine blk_drewN ?_ _ | refine blk_drew ?_ | refine blk_alloc ?_ _)); exact BK30022.out) hb); have n5_ := Aside0.mk (below_step (by repeat (first | (with_reducible first | exact HB.out | apply below_alloc | apply pw_below_drewN | apply below_drew1 | refine below_set ?_ GE30001.out | refine below_set ?_ GE30022.out) | exact HB.out)) hb); clear HO_48; clear HO_73; clear BK30001; clear BK30022; clear HB; have HO_48 := n0_; have HO_73 := n1_; have HO30054 := n2_; have BK30001 := n3_; have BK30022 := n4_; have HB := n5_; clear n0_ n1_ n2_ n3_ n4_ n5_; (try clear hb); (try clear hb2); (try clear hk); (try clear hi); (try clear ho0)) | ((with_reducible refine gate_dst (N := 30) rfl ?_); refine box_event ?hg (N := 30) ?hd (cs := #[.string (⟨#[]⟩ : ByteArray), .int .i64 0]) (t := 23) ?hr ?_; (case hd => rfl); (case hg => rfl); (case hr => first | (go_simp; done) | (go_simp; rfl)); intro gb30058 hg w106 hbox hb; have n0_ := Aside0.mk (Kd.R_below (Kd.R_elderB (by (with_reducible repeat (first | apply Kd.R_alloc | apply Kd.R_drewN | apply Kd.R_drew)); exact HO_48.out) gb30058 (Nat.le_of_eq hg.symm)) hb); have n1_ := Aside0.mk (Kd.R_below (by (with_reducible repeat (first | apply Kd.R_alloc | apply Kd.R_drewN | apply Kd.R_drew)); exact HO_73.out) hb); have n2_ := Aside0.mk (Kd.R_below (by (with_reducible repeat (first | apply Kd.R_alloc | apply Kd.R_drewN | apply Kd.R_drew)); exact HO30054.out) hb); have n3_ := Aside0.mk (blk_below (g := gb30001) (o := .cells #[.string a2_0, .int .i64 a2_1] 23 (0, 0)) (by (with_reducible repeat (first | refine blk_drewN ?_ _ | refine blk_drew ?_ | refine blk_alloc ?_ _)); exact BK30001.out) hb); have n4_ := Aside0.mk (blk_below (g := gb30022) (o := .cells #[.string ((rd_T23 y30006 x50_1).f0), .int .i64 ((rd_T23 y30006 x50_1).f1)] 23 (0, 0)) (by (with_reducible repeat (first | refine blk_drewN ?_ _ | refine blk_drew ?_ | refine blk_alloc ?_ _)); exact BK30022.out) hb); have n5_ := Aside0.mk (below_step (by repeat (first | (with_reducible first | exact HB.out | apply below_alloc | apply pw_below_drewN | apply below_drew1 | refine below_set ?_ GE30001.out | refine below_set ?_ GE30022.out) | exact HB.out)) hb); have n6_ := Aside0.mk (hbox); have n7_ := Aside0.mk ((by rw [hg]; exact (below_size (by repeat (first | (with_reducible first | exact HB.out | apply below_alloc | apply pw_below_drewN | apply below_drew1 | refine below_set ?_ GE30001.out | refine below_set ?_ GE30022.out) | exact HB.out))) : w.heap.size ≤ gb30058)); have n8_ := Aside0.mk ((by rw [hg]; exact (below_size (by repeat (first | (with_reducible first | exact HB.out | apply below_alloc | apply pw_below_drewN | apply below_drew1 | refine below_set ?_ GE30001.out | refine below_set ?_ GE30022.out) | exact HB.out))) : w.heap.size ≤ gb30058)); have n9_ := Aside0.mk ((by rw [hg]; exact Nat.ne_of_lt (blk_lt (g := gb30001) (o := .cells #[.string a2_0, .int .i64 a2_1] 23 (0, 0)) (by (with_reducible repeat (first | refine blk_drewN ?_ _ | refine blk_drew ?_ | refine blk_alloc ?_ _)); exact BK30001.out)) : gb30001 ≠ gb30058)); have n10_ := Aside0.mk ((by rw [hg]; exact Nat.ne_of_gt (blk_lt (g := gb30001) (o := .cells #[.string a2_0, .int .i64 a2_1] 23 (0, 0)) (by (with_reducible repeat (first | refine blk_drewN ?_ _ | refine blk_drew ?_ | refine blk_alloc ?_ _)); exact BK30001.out)) : gb30058 ≠ gb30001)); have n11_ := Aside0.mk ((by rw [hg]; exact Nat.ne_of_lt (blk_lt (g := gb30022) (o := .cells #[.string ((rd_T23 y30006 x50_1).f0), .int .i64 ((rd_T23 y30006 x50_1).f1)] 23 (0, 0)) (by (with_reducible repeat (first | refine blk_drewN ?_ _ | refine blk_drew ?_ | refine blk_alloc ?_ _)); exact BK30022.out)) : gb30022 ≠ gb30058)); have n12_ := Aside0.mk ((by rw [hg]; exact Nat.ne_of_gt (blk_lt (g := gb30022) (o := .cells #[.string ((rd_T23 y30006 x50_1).f0), .int .i64 ((rd_T23 y30006 x50_1).f1)] 23 (0, 0)) (by (with_reducible repeat (first | refine blk_drewN ?_ _ | refine blk_drew ?_ | refine blk_alloc ?_ _)); exact BK30022.out)) : gb30058 ≠ gb30022)); clear HO_48; clear HO_73; clear HO30054; clear BK30001; clear BK30022; clear HB; have HO_48 := n0_; have HO_73 := n1_; have HO30054 := n2_; have BK30001 := n3_; have BK30022 := n4_; have HB := n5_; have BK30058 := n6_; have GW30058 := n7_; have GE30058 := n8_; have NB30001_30058 := n9_; have NB30058_30001 := n10_; have NB30022_30058 := n11_; have NB30058_30022 := n12_; clear n0_ n1_ n2_ n3_ n4_ n5_ n6_ n7_ n8_ n9_ n10_ n11_ n12_; clear hb hbox hg; have hnb107 := NB30058_30001.out; have hnc107 := NB30001_30058.out; have hnb108 := NB30058_30022.out; have hnc108 := NB30022_30058.out; have hcz109_0 : w106.cell? ⟨gb30058, 0, none⟩ = some (.string (⟨#[]⟩ : ByteArray)) := (blk_cell BK30058.out 0).trans rfl; have hcz109_1 : w106.cell? ⟨gb30058, 1, none⟩ = some (.int .i64 0) := (blk_cell BK30058.out 1).trans rfl; have hfz109_0 := blk_frozen BK30058.out 0; have hfz109_1 := blk_frozen BK30058.out 1; have hcz110_0 : w106.cell? ⟨gb30022, 0, none⟩ = some (.string ((rd_T23 y30006 x50_1).f0)) := (blk_cell BK30022.out 0).trans rfl; have hcz110_1 : w106.cell? ⟨gb30022, 1, none⟩ = some (.int .i64 ((rd_T23 y30006 x50_1).f1)) := (blk_cell BK30022.out 1).trans rfl; have hfz110_0 := blk_frozen BK30022.out 0; have hfz110_1 := blk_frozen BK30022.out 1) | ((with_reducible refine gate_callee (f := 26) rfl ?_); refine goesL_ (some 146) rfl rfl Try.func26 (by kernel_rfl) rfl #[.agg #[.string ((rd_T23 y30006 x50_1).f0), .int .i64 ((rd_T23 y30006 x50_1).f1)], .slice A4 (l4.take ((ji7) : Int).toNat).length c4] rfl (by (try simp only [List.map_toArray, List.map_cons, List.map_nil]); first | done | (rw [show (l4.take ((ji7) : Int).toNat).length = (ji7).toNat from (by rw [List.length_take]; have h_ : ((ji7) : Int) ≤ (l4.length : Int) := (by first | exact of_decide_eq_true (by first | (with_reducible assumption) | assumption) | omega | (rw [← hji7]; unfold mn; (repeat' split) <;> omega)); omega)] <;> rfl) | (simp only [hji7]; rfl) | rfl | (simp only [List.length_drop, List.length_take]; rfl)) ?_; (with_reducible refine (columbariumref07_Turn.calls k3 ((rd_T23 y30006 x50_1).f0) ((rd_T23 y30006 x50_1).f1) _ _ (l4.take ((ji7) : Int).toNat) t30059 t30062 t30063 t30064 _ ?side1 ?side2 A98.out).mono ?_); (case side1 => exact Kd.C_below HR30003.out (by repeat (first | (with_reducible first | exact HB.out | apply below_alloc | apply pw_below_drewN | apply below_drew1 | refine below_set ?_ GE30001.out | refine below_set ?_ GE30022.out | refine below_set ?_ GE30058.out) | exact HB.out))); (case side2 => exact HC30003.out); rintro e w111 ⟨v30060, rfl, ho0, hb⟩; refine ⟨_, rfl, ?_⟩; have n0_ := Aside0.mk (Kd.R_below (by (with_reducible repeat (first | apply Kd.R_alloc | apply Kd.R_drewN | apply Kd.R_drew)); exact (Kd.R_mono (Kd.R_far (p := ⟨gb30058, 1, none⟩) (Kd.R_far (p := ⟨gb30058, 0, none⟩) (Kd.R_mono HO_48.out (fun k_ hk => (⟨hk, hk.2⟩ : _ ∧ k_ ≠ gb30058))) (fun _ hk => hk.2) (.string t30055)) (fun _ hk => hk.2) (.int .i64 t30056)) (fun _ h_ => h_.1))) hb); have n1_ := Aside0.mk (Kd.R_elder' (by (with_reducible repeat (first | apply Kd.R_alloc | apply Kd.R_drewN | apply Kd.R_drew)); exact (Kd.R_mono (Kd.R_far (p := ⟨gb30058, 1, none⟩) (Kd.R_far (p := ⟨gb30058, 0, none⟩) (Kd.R_types HO_73.out BK30058.out (by decide)) (fun _ hk => hk.2) (.string t30055)) (fun _ hk => hk.2) (.int .i64 t30056)) (fun _ h_ => h_.1))) (Kd.R_base ho0) hb); have n2_ := Aside0.mk (Kd.R_elder' (by (with_reducible repeat (first | apply Kd.R_alloc | apply Kd.R_drewN | apply Kd.R_drew)); exact (Kd.R_mono (Kd.R_far (p := ⟨gb30058, 1, none⟩) (Kd.R_far (p := ⟨gb30058, 0, none⟩) (Kd.R_types HO30054.out BK30058.out (by decide)) (fun _ hk => hk.2) (.string t30055)) (fun _ hk => hk.2) (.int .i64 t30056)) (fun _ h_ => h_.1))) (Kd.R_base ho0) hb); have n3_ := Aside0.mk (Kd.R_lower (Kd.R_new' (Kd.R_new' ho0 (Kd.R_lt (by (with_reducible repeat (first | apply Kd.R_alloc | apply Kd.R_drewN | apply Kd.R_drew)); exact (Kd.R_mono (Kd.R_far (p := ⟨gb30058, 1, none⟩) (Kd.R_far (p := ⟨gb30058, 0, none⟩) (Kd.R_types HO_73.out BK30058.out (by decide)) (fun _ hk => hk.2) (.string t30055)) (fun _ hk => hk.2) (.int .i64 t30056)) (fun _ h_ => h_.1))))) (Kd.R_lt (by (with_reducible repeat (first | apply Kd.R_alloc | apply Kd.R_drewN | apply Kd.R_drew)); exact (Kd.R_mono (Kd.R_far (p := ⟨gb30058, 1, none⟩) (Kd.R_far (p := ⟨gb30058, 0, none⟩) (Kd.R_types HO30054.out BK30058.out (by decide)) (fun _ hk => hk.2) (.string t30055)) (fun _ hk => hk.2) (.int .i64 t30056)) (fun _ h_ => h_.1))))) (below_size (by repeat (first | (with_reducible first | exact HB.out | apply below_alloc | apply pw_below_drewN | apply below_drew1 | refine below_set ?_ GE30001.out | refine below_set ?_ GE30022.out | refine below_set ?_ GE30058.out) | exact HB.out)))); have n4_ := Aside0.mk (blk_below (g := gb30001) (o := .cells #[.string a2_0, .int .i64 a2_1] 23 (0, 0)) (by (with_reducible repeat (first | refine blk_drewN ?_ _ | refine blk_drew ?_ | refine blk_alloc ?_ _)); refine blk_far ?_ NB30001_30058.out _; (with_reducible repeat (first | refine blk_drewN ?_ _ | refine blk_drew ?_ | refine blk_alloc ?_ _)); refine blk_far ?_ NB30001_30058.out _; (with_reducible repeat (first | refine blk_drewN ?_ _ | refine blk_drew ?_ | refine blk_alloc ?_ _)); exact BK30001.out) hb); have n5_ := Aside0.mk (blk_below (g := gb30022) (o := .cells #[.string ((rd_T23 y30006 x50_1).f0), .int .i64 ((rd_T23 y30006 x50_1).f1)] 23 (0, 0)) (by (with_reducible repeat (first | refine blk_drewN ?_ _ | refine blk_drew ?_ | refine blk_alloc ?_ _)); refine blk_far ?_ NB30022_30058.out _; (with_reducible repeat (first | refine blk_drewN ?_ _ | refine blk_drew ?_ | refine blk_alloc ?_ _)); refine blk_far ?_ NB30022_30058.out _; (with_reducible repeat (first | refine blk_drewN ?_ _ | refine blk_drew ?_ | refine blk_alloc ?_ _)); exact BK30022.out) hb); have n6_ := Aside0.mk (blk_below (g := gb30058) (o := .cells #[.string t30055, .int .i64 t30056] 23 (0, 0)) (by (with_reducible repeat (first | refine blk_drewN ?_ _ | refine blk_drew ?_ | refine blk_alloc ?_ _)); refine blk_put (cs := #[.string t30055, .int .i64 0]) ?_ 1 _ rfl; (with_reducible repeat (first | refine blk_drewN ?_ _ | refine blk_drew ?_ | refine blk_alloc ?_ _)); refine blk_put (cs := #[.string (⟨#[]⟩ : ByteArray), .int .i64 0]) ?_ 0 _ rfl; (with_reducible repeat (first | refine blk_drewN ?_ _ | refine blk_drew ?_ | refine blk_alloc ?_ _)); exact BK30058.out) hb); have n7_ := Aside0.mk (below_step (by repeat (first | (with_reducible first | exact HB.out | apply below_alloc | apply pw_below_drewN | apply below_drew1 | refine below_set ?_ GE30001.out | refine below_set ?_ GE30022.out | refine below_set ?_ GE30058.out) | exact HB.out)) hb); clear HO_48; clear HO_73; clear HO30054; clear BK30001; clear BK30022; clear BK30058; clear HB; have HO_48 := n0_; have HO_73 := n1_; have HO30054 := n2_; have HO30061 := n3_; have BK30001 := n4_; have BK30022 := n5_; have BK30058 := n6_; have HB := n7_; clear n0_ n1_ n2_ n3_ n4_ n5_ n6_ n7_; (try clear hb); (try clear hb2); (try clear hk); (try clear hi); (try clear ho0)) | ((with_reducible refine gate_dst (N := 33) rfl ?_); refine box_event ?hg (N := 33) ?hd (cs := #[.string (⟨#[]⟩ : ByteArray), .int .i64 0]) (t := 23) ?hr ?_; (case hd => rfl); (case hg => rfl); (case hr => first | (go_simp; done) | (go_simp; rfl)); intro gb30065 hg w112 hbox hb; have n0_ := Aside0.mk (Kd.R_below (Kd.R_elderB (by (with_reducible repeat (first | apply Kd.R_alloc | apply Kd.R_drewN | apply Kd.R_drew)); exact HO_48.out) gb30065 (Nat.le_of_eq hg.symm)) hb); have n1_ := Aside0.mk (Kd.R_below (by (with_reducible repeat (first | apply Kd.R_alloc | apply Kd.R_drewN | apply Kd.R_drew)); exact HO_73.out) hb); have n2_ := Aside0.mk (Kd.R_below (by (with_reducible repeat (first | apply Kd.R_alloc | apply Kd.R_drewN | apply Kd.R_drew)); exact HO30054.out) hb); have n3_ := Aside0.mk (Kd.R_below (by (with_reducible repeat (first | apply Kd.R_alloc | apply Kd.R_drewN | apply Kd.R_drew)); exact HO30061.out) hb); have n4_ := Aside0.mk (blk_below (g := gb30001) (o := .cells #[.string a2_0, .int .i64 a2_1] 23 (0, 0)) (by (with_reducible repeat (first | refine blk_drewN ?_ _ | refine blk_drew ?_ | refine blk_alloc ?_ _)); exact BK30001.out) hb); have n5_ := Aside0.mk (blk_below (g := gb30022) (o := .cells #[.string ((rd_T23 y30006 x50_1).f0), .int .i64 ((rd_T23 y30006 x50_1).f1)] 23 (0, 0)) (by (with_reducible repeat (first | refine blk_drewN ?_ _ | refine blk_drew ?_ | refine blk_alloc ?_ _)); exact BK30022.out) hb); have n6_ := Aside0.mk (blk_below (g := gb30058) (o := .cells #[.string t30055, .int .i64 t30056] 23 (0, 0)) (by (with_reducible repeat (first | refine blk_drewN ?_ _ | refine blk_drew ?_ | refine blk_alloc ?_ _)); exact BK30058.out) hb); have n7_ := Aside0.mk (below_step (by repeat (first | (with_reducible first | exact HB.out | apply below_alloc | apply pw_below_drewN | apply below_drew1 | refine below_set ?_ GE30001.out | refine below_set ?_ GE30022.out | refine below_set ?_ GE30058.out) | exact HB.out)) hb); have n8_ := Aside0.mk (hbox); have n9_ := Aside0.mk ((by rw [hg]; exact (below_size (by repeat (first | (with_reducible first | exact HB.out | apply below_alloc | apply pw_below_drewN | apply below_drew1 | refine below_set ?_ GE30001.out | refine below_set ?_ GE30022.out | refine below_set ?_ GE30058.out) | exact HB.out))) : w.heap.size ≤ gb30065)); have n10_ := Aside0.mk ((by rw [hg]; exact (below_size (by repeat (first | (with_reducible first | exact HB.out | apply below_alloc | apply pw_below_drewN | apply below_drew1 | refine below_set ?_ GE30001.out | refine below_set ?_ GE30022.out | refine below_set ?_ GE30058.out) | exact HB.out))) : w.heap.size ≤ gb30065)); have n11_ := Aside0.mk ((by rw [hg]; exact Nat.ne_of_lt (blk_lt (g := gb30001) (o := .cells #[.string a2_0, .int .i64 a2_1] 23 (0, 0)) (by (with_reducible repeat (first | refine blk_drewN ?_ _ | refine blk_drew ?_ | refine blk_alloc ?_ _)); exact BK30001.out)) : gb30001 ≠ gb30065)); have n12_ := Aside0.mk ((by rw [hg]; exact Nat.ne_of_gt (blk_lt (g := gb30001) (o := .cells #[.string a2_0, .int .i64 a2_1] 23 (0, 0)) (by (with_reducible repeat (first | refine blk_drewN ?_ _ | refine blk_drew ?_ | refine blk_alloc ?_ _)); exact BK30001.out)) : gb30065 ≠ gb30001)); have n13_ := Aside0.mk ((by rw [hg]; exact Nat.ne_of_lt (blk_lt (g := gb30022) (o := .cells #[.string ((rd_T23 y30006 x50_1).f0), .int .i64 ((rd_T23 y30006 x50_1).f1)] 23 (0, 0)) (by (with_reducible repeat (first | refine blk_drewN ?_ _ | refine blk_drew ?_ | refine blk_alloc ?_ _)); exact BK30022.out)) : gb30022 ≠ gb30065)); have n14_ := Aside0.mk ((by rw [hg]; exact Nat.ne_of_gt (blk_lt (g := gb30022) (o := .cells #[.string ((rd_T23 y30006 x50_1).f0), .int .i64 ((rd_T23 y30006 x50_1).f1)] 23 (0, 0)) (by (with_reducible repeat (first | refine blk_drewN ?_ _ | refine blk_drew ?_ | refine blk_alloc ?_ _)); exact BK30022.out)) : gb30065 ≠ gb30022)); have n15_ := Aside0.mk ((by rw [hg]; exact Nat.ne_of_lt (blk_lt (g := gb30058) (o := .cells #[.string t30055, .int .i64 t30056] 23 (0, 0)) (by (with_reducible repeat (first | refine blk_drewN ?_ _ | refine blk_drew ?_ | refine blk_alloc ?_ _)); exact BK30058.out)) : gb30058 ≠ gb30065)); have n16_ := Aside0.mk ((by rw [hg]; exact Nat.ne_of_gt (blk_lt (g := gb30058) (o := .cells #[.string t30055, .int .i64 t30056] 23 (0, 0)) (by (with_reducible repeat (first | refine blk_drewN ?_ _ | refine blk_drew ?_ | refine blk_alloc ?_ _)); exact BK30058.out)) : gb30065 ≠ gb30058)); clear HO_48; clear HO_73; clear HO30054; clear HO30061; clear BK30001; clear BK30022; clear BK30058; clear HB; have HO_48 := n0_; have HO_73 := n1_; have HO30054 := n2_; have HO30061 := n3_; have BK30001 := n4_; have BK30022 := n5_; have BK30058 := n6_; have HB := n7_; have BK30065 := n8_; have GW30065 := n9_; have GE30065 := n10_; have NB30001_30065 := n11_; have NB30065_30001 := n12_; have NB30022_30065 := n13_; have NB30065_30022 := n14_; have NB30058_30065 := n15_; have NB30065_30058 := n16_; clear n0_ n1_ n2_ n3_ n4_ n5_ n6_ n7_ n8_ n9_ n10_ n11_ n12_ n13_ n14_ n15_ n16_; clear hb hbox hg; have hnb113 := NB30065_30001.out; have hnc113 := NB30001_30065.out; have hnb114 := NB30065_30022.out; have hnc114 := NB30022_30065.out; have hnb115 := NB30065_30058.out; have hnc115 := NB30058_30065.out; have hcz116_0 : w112.cell? ⟨gb30065, 0, none⟩ = some (.string (⟨#[]⟩ : ByteArray)) := (blk_cell BK30065.out 0).trans rfl; have hcz116_1 : w112.cell? ⟨gb30065, 1, none⟩ = some (.int .i64 0) := (blk_cell BK30065.out 1).trans rfl; have hfz116_0 := blk_frozen BK30065.out 0; have hfz116_1 := blk_frozen BK30065.out 1; obtain ⟨Ao117, co117, eo117⟩ := Kd.R_slice HO30054.out; subst eo117; obtain ⟨Ao118, co118, eo118⟩ := Kd.R_slice HO30061.out; subst eo118) | ((with_reducible refine gate_callee (f := 27) rfl ?_); refine goesL_ (some 152) rfl rfl Try.func27 (by kernel_rfl) rfl #[.slice Ao117 t30052.length co117, .slice Ao118 t30059.length co118] rfl (by (try simp only [List.map_toArray, List.map_cons, List.map_nil]); first | done | rfl | (simp only [List.length_drop, List.length_take]; rfl)) ?_; (with_reducible refine (columbariumref07_Ints.calls k3 _ _ t30052 _ _ t30059 true _ ?side1 ?side2 ?side3 ?side4 A99.out).mono ?_); (case side1 => refine (Kd.R_reads' (e := 3) (base := w.heap.size) (ok := fun k_ => ((True ∧ some k_ ≠ (.slice Ao49 y30028.length co49 : Value).ownBlock) ∧ some k_ ≠ (.slice Ao118 t30059.length co118 : Value).ownBlock)) (n := t30052.length) (c := co117) ?_).2.2; exact (by (with_reducible repeat (first | apply Kd.R_alloc | apply Kd.R_drewN | apply Kd.R_drew)); exact (Kd.R_mono (Kd.R_far (p := ⟨gb30065, 1, none⟩) (Kd.R_far (p := ⟨gb30065, 0, none⟩) (Kd.R_types HO30054.out BK30065.out (by decide)) (fun _ hk => hk.2) (.string t30062)) (fun _ hk => hk.2) (.int .i64 t30063)) (fun _ h_ => h_.1)))); (case side2 => exact (Kd.R_reads' HO30054.out).2.1); (case side3 => refine (Kd.R_reads' (e := 3) (base := w.heap.size) (ok := fun k_ => ((True ∧ some k_ ≠ (.slice Ao49 y30028.length co49 : Value).ownBlock) ∧ some k_ ≠ (.slice Ao117 t30052.length co117 : Value).ownBlock)) (n := t30059.length) (c := co118) ?_).2.2; exact (by (with_reducible repeat (first | apply Kd.R_alloc | apply Kd.R_drewN | apply Kd.R_drew)); exact (Kd.R_mono (Kd.R_far (p := ⟨gb30065, 1, none⟩) (Kd.R_far (p := ⟨gb30065, 0, none⟩) (Kd.R_types HO30061.out BK30065.out (by decide)) (fun _ hk => hk.2) (.string t30062)) (fun _ hk => hk.2) (.int .i64 t30063)) (fun _ h_ => h_.1)))); (case side4 => exact (Kd.R_reads' HO30061.out).2.1); rintro e w' ⟨rfl, ⟨nd, rfl⟩⟩; refine ⟨_, rfl, ?_⟩; have hcz119_0 : w112.cell? ⟨gb30058, 0, none⟩ = some (.string t30055) := (blk_cell BK30058.out 0).trans rfl; have hcz119_1 : w112.cell? ⟨gb30058, 1, none⟩ = some (.int .i64 t30056) := (blk_cell BK30058.out 1).trans rfl; have hfz119_0 := blk_frozen BK30058.out 0; have hfz119_1 := blk_frozen BK30058.out 1))
                  go_roundg k3
                  case measure => have := HK1.out; have := HJ25.out; have := HK3.out; omega
                  case rel => exact ⟨(wrap64 (x50_1 + 1)), (by first | rfl | (simp; done) | (simp [*]; done)), H', ⟨by have := HK1.out; have := HJ25.out; have := HK3.out; omega⟩, ⟨by (with_reducible repeat (first | apply Kd.R_alloc | apply Kd.R_drewN | apply Kd.R_drew)); exact Kd.R_mono (Kd.R_far (p := ⟨gb30065, 1, none⟩) (Kd.R_far (p := ⟨gb30065, 0, none⟩) (Kd.R_mono HO_48.out (fun k_ hk => (⟨hk, hk.2⟩ : _ ∧ k_ ≠ gb30065))) (fun _ hk => hk.2) (.string t30062)) (fun _ hk => hk.2) (.int .i64 t30063)) (fun _ hk => hk.1.1.1.1)⟩, ⟨by (with_reducible repeat (first | refine blk_drewN ?_ _ | refine blk_drew ?_ | refine blk_alloc ?_ _)); refine blk_far ?_ NB30001_30065.out _; (with_reducible repeat (first | refine blk_drewN ?_ _ | refine blk_drew ?_ | refine blk_alloc ?_ _)); refine blk_far ?_ NB30001_30065.out _; (with_reducible repeat (first | refine blk_drewN ?_ _ | refine blk_drew ?_ | refine blk_alloc ?_ _)); exact BK30001.out⟩, ⟨by repeat (first | (with_reducible first | exact HB.out | apply below_alloc | apply pw_below_drewN | apply below_drew1 | refine below_set ?_ GE30001.out | refine below_set ?_ GE30022.out | refine below_set ?_ GE30058.out | refine below_set ?_ GE30065.out) | exact HB.out)⟩⟩
                 ·rw [if_neg c102] at H
                  exact absurd H (by simp)
               ·replace c100 := Bool.eq_false_iff.mpr c100
                subst c100
                have H1 : (none) = some r := by rw [if_neg (show ¬ (false = true) by decide)] at H; exact H
                clear H
                have H := H1
                clear H1
                exact absurd H (by simp)
       ·rw [if_neg c21] at H
        exact absurd H (by simp)
      ·rw [if_neg c20] at H
       exact absurd H (by simp)
     ·rw [if_neg c19] at H
      have c19b0 : decide (x50_1 < (y30006.length : Int)) = false := decide_eq_false c19
      clear c19
      replace H := Option.bind_eq_some_iff.mp H
      obtain ⟨⟨t30009, t30010⟩, A1200, H⟩ := H
      replace H : (if 1001 ≤ 35184372088832 then ((tape_Turn.f t30009 t30010 (List.replicate 1001 0)).bind fun bt30014 => (if t30002 = true then (some (bt30014.2.2.2 == 2)) else (none))) else (none)) = some r := H
      have A120 := Aside0.mk A1200
      clear A1200
      by_cases c121 : 1001 ≤ 35184372088832
      ·rw [if_pos c121] at H
       have c121b0 := eq_true c121
       have c121b1 : decide (1001 ≤ 35184372088832) = true := decide_eq_true c121
       clear c121
       obtain ⟨y30011, hy30011⟩ : ∃ y_ : List Int, y_ = (List.replicate 1001 0) := ⟨_, rfl⟩
       replace H : ((tape_Turn.f t30009 t30010 y30011).bind fun bt30014 => (if t30002 = true then (some (bt30014.2.2.2 == 2)) else (none))) = some r := by first | (rw [hy30011]; with_reducible exact H) | (have H2_ := (Option.bind_some _ _).symm.trans H; rw [hy30011]; with_reducible exact H2_) | (have H2_ := (Option.bind_some _ _).symm.trans H; with_reducible exact H2_) | with_reducible exact H | (rw [hy30011]; exact H) | exact H
       have Ny30011 := Aside0.mk hy30011
       clear hy30011
       replace H := Option.bind_eq_some_iff.mp H
       obtain ⟨⟨t30014, t30017, t30018, t30019⟩, A1220, H⟩ := H
       replace H : (if t30002 = true then (some (t30019 == 2)) else (none)) = some r := H
       have A122 := Aside0.mk A1220
       clear A1220
       by_cases c123 : t30002 = true
       ·subst c123
        have H1 : (some (t30019 == 2)) = some r := by rw [if_pos rfl] at H; exact H
        clear H
        have H := H1
        clear H1
        obtain rfl := Option.some.inj H
        try go_wp2
        have n0_ := Aside0.mk (Kd.R_drew HO_48.out)
        have n1_ := Aside0.mk (blk_drew BK30001.out)
        have n2_ := Aside0.mk (below_drew1 HB.out)
        clear HO_48
        clear BK30001
        clear HB
        have HO_48 := n0_
        have BK30001 := n1_
        have HB := n2_
        clear n0_ n1_ n2_
        refine start_ (n := 13) (S := fun w' => True) (ds := []) #[false, false, false, false, false, false, false, false, false, false, false, false, false] (by kernel_rfl) rfl rfl trivial (fun hHeld => ?_); refine with_tabW columbariumlaw07_TapeTells.tab24 columbariumlaw07_TapeTells.bits24 (fun HT_ HW_ => ?_)
        generalize wr.drew = w124 at HO_48 BK30001 HB hHeld ⊢
        refine pure_ (i := 0) (N := some 166) (v := ?_) (a' := ?_) #[true, false, false, false, false, false, false, false, false, false, false, false, false] rfl rfl (any_of HT_.out (by kernel_rfl)) (fun _ _ _ h => h) (Or.inl ⟨by rfl, ?_⟩) ?_ ?_
        rotate_left
        ·intro w'
         go_simp
         with_reducible rfl
        rotate_left
        ·simp only [Act.put, List.setIfInBounds_toArray, List.set_cons_zero, List.set_cons_succ, i64_w, i32_w]
         rfl
        refine pure_ (i := 1) (N := some 167) (v := ?_) (a' := ?_) #[true, true, false, false, false, false, false, false, false, false, false, false, false] rfl rfl (any_of HT_.out (by kernel_rfl)) (fun _ _ _ h => h) (Or.inl ⟨by rfl, ?_⟩) ?_ ?_
        rotate_left
        ·intro w'
         go_simp
         with_reducible rfl
        rotate_left
        ·simp only [Act.put, List.setIfInBounds_toArray, List.set_cons_zero, List.set_cons_succ, i64_w, i32_w]
         rfl
        refine join_ (σ := Value × Value × Nat) 3 #[true, true, true, true, true, true, true, true, true, true, false, false, false] (fun s_ => [(168, .agg #[.string t30009, .int .i64 t30010]), (169, s_.1), (170, .tuple #[s_.2.1, .agg #[.string t30017, .int .i64 t30018], .int .i64 t30019]), (36, .pointer (some ⟨s_.2.2, 0, none⟩)), (165, .tuple #[s_.2.1, .agg #[.string t30017, .int .i64 t30018], .int .i64 t30019]), (171, s_.2.1), (172, .agg #[.string t30017, .int .i64 t30018]), (173, .int .i64 t30019)]) (fun s_ w' => (Kd.R (Kd.int .i64) 3 w' w.heap.size (fun k_ => some k_ ≠ (s_.2.1 : Value).ownBlock) s_.1 y30011) ∧ (Kd.R (Kd.int .i64) 3 w' w.heap.size (fun k_ => some k_ ≠ (s_.1 : Value).ownBlock) s_.2.1 t30014) ∧ (Kd.R k23 23 w' w.heap.size (fun k_ => k_ ≠ gb30001 ∧ k_ ≠ s_.2.2) (.slice Ao18 y30006.length co18) y30006) ∧ (w'.heap[gb30001]? = some (.cells #[.string a2_0, .int .i64 a2_1] 23 (0, 0))) ∧ (w'.heap[s_.2.2]? = some (.cells #[.string (⟨#[]⟩ : ByteArray), .int .i64 0] 23 (0, 0))) ∧ (w.heap.size ≤ s_.2.2) ∧ (w.heap.size ≤ s_.2.2) ∧ (gb30001 ≠ s_.2.2) ∧ (s_.2.2 ≠ gb30001) ∧ (Below w.heap.size w w')) ?_ ?_
        rotate_left
        ·intro hJ2_3_4_9
         refine join_ (σ := Value × Value) 4 #[true, true, true, true, true, true, true, true, true, false, false, false, false] (fun s_ => [(168, .agg #[.string t30009, .int .i64 t30010]), (169, s_.1), (170, .tuple #[s_.2, .agg #[.string t30017, .int .i64 t30018], .int .i64 t30019]), (165, .tuple #[s_.2, .agg #[.string t30017, .int .i64 t30018], .int .i64 t30019]), (171, s_.2), (172, .agg #[.string t30017, .int .i64 t30018]), (173, .int .i64 t30019)]) (fun s_ w' => (Kd.R (Kd.int .i64) 3 w' w.heap.size (fun k_ => some k_ ≠ (s_.2 : Value).ownBlock) s_.1 y30011) ∧ (Kd.R (Kd.int .i64) 3 w' w.heap.size (fun k_ => some k_ ≠ (s_.1 : Value).ownBlock) s_.2 t30014) ∧ (Kd.R k23 23 w' w.heap.size (fun k_ => k_ ≠ gb30001) (.slice Ao18 y30006.length co18) y30006) ∧ (w'.heap[gb30001]? = some (.cells #[.string a2_0, .int .i64 a2_1] 23 (0, 0))) ∧ (Below w.heap.size w w')) ?_ ?_
         rotate_left
         ·intro hJ2_3_4
          refine join_ (σ := Value × Nat) 8 #[true, true, true, true, false, false, false, false, false, true, false, false, false] (fun s_ => [(168, .agg #[.string t30009, .int .i64 t30010]), (169, s_.1), (36, .pointer (some ⟨s_.2, 0, none⟩))]) (fun s_ w' => (Kd.R (Kd.int .i64) 3 w' w.heap.size (fun _ => True) s_.1 y30011) ∧ (Kd.R k23 23 w' w.heap.size (fun k_ => k_ ≠ gb30001 ∧ k_ ≠ s_.2) (.slice Ao18 y30006.length co18) y30006) ∧ (w'.heap[gb30001]? = some (.cells #[.string a2_0, .int .i64 a2_1] 23 (0, 0))) ∧ (w'.heap[s_.2]? = some (.cells #[.string (⟨#[]⟩ : ByteArray), .int .i64 0] 23 (0, 0))) ∧ (w.heap.size ≤ s_.2) ∧ (w.heap.size ≤ s_.2) ∧ (gb30001 ≠ s_.2) ∧ (s_.2 ≠ gb30001) ∧ (Below w.heap.size w w')) ?_ ?_
          rotate_left
          ·intro hJ2_3_9
           refine join_ (σ := Value) 9 #[true, true, true, true, false, false, false, false, false, false, false, false, false] (fun s_ => [(168, .agg #[.string t30009, .int .i64 t30010]), (169, s_)]) (fun s_ w' => (Kd.R (Kd.int .i64) 3 w' w.heap.size (fun _ => True) s_ y30011) ∧ (Kd.R k23 23 w' w.heap.size (fun k_ => k_ ≠ gb30001) (.slice Ao18 y30006.length co18) y30006) ∧ (w'.heap[gb30001]? = some (.cells #[.string a2_0, .int .i64 a2_1] 23 (0, 0))) ∧ (Below w.heap.size w w')) ?_ ?_
           rotate_left
           ·intro hJ2_3
            refine join_ (σ := Nat) 9 #[true, true, true, false, false, false, false, false, false, true, false, false, false] (fun s_ => [(168, .agg #[.string t30009, .int .i64 t30010]), (36, .pointer (some ⟨s_, 0, none⟩))]) (fun s_ w' => (Kd.R k23 23 w' w.heap.size (fun k_ => k_ ≠ gb30001 ∧ k_ ≠ s_) (.slice Ao18 y30006.length co18) y30006) ∧ (w'.heap[gb30001]? = some (.cells #[.string a2_0, .int .i64 a2_1] 23 (0, 0))) ∧ (w'.heap[s_]? = some (.cells #[.string (⟨#[]⟩ : ByteArray), .int .i64 0] 23 (0, 0))) ∧ (w.heap.size ≤ s_) ∧ (w.heap.size ≤ s_) ∧ (gb30001 ≠ s_) ∧ (s_ ≠ gb30001) ∧ (Below w.heap.size w w')) ?_ ?_
            rotate_left
            ·intro hJ2_9
             refine join_ (σ := Value × Nat) 9 #[true, true, false, true, false, false, false, false, false, true, false, false, false] (fun s_ => [(169, s_.1), (36, .pointer (some ⟨s_.2, 0, none⟩))]) (fun s_ w' => (Kd.R (Kd.int .i64) 3 w' w.heap.size (fun _ => True) s_.1 y30011) ∧ (Kd.R k23 23 w' w.heap.size (fun k_ => k_ ≠ gb30001 ∧ k_ ≠ s_.2) (.slice Ao18 y30006.length co18) y30006) ∧ (w'.heap[gb30001]? = some (.cells #[.string a2_0, .int .i64 a2_1] 23 (0, 0))) ∧ (w'.heap[s_.2]? = some (.cells #[.string (⟨#[]⟩ : ByteArray), .int .i64 0] 23 (0, 0))) ∧ (w.heap.size ≤ s_.2) ∧ (w.heap.size ≤ s_.2) ∧ (gb30001 ≠ s_.2) ∧ (s_.2 ≠ gb30001) ∧ (Below w.heap.size w w')) ?_ ?_
             rotate_left
             ·intro hJ3_9
              refine join_ (σ := Unit) 10 #[true, true, true, false, false, false, false, false, false, false, false, false, false] (fun s_ => [(168, .agg #[.string t30009, .int .i64 t30010])]) (fun s_ w' => (Kd.R k23 23 w' w.heap.size (fun k_ => k_ ≠ gb30001) (.slice Ao18 y30006.length co18) y30006) ∧ (w'.heap[gb30001]? = some (.cells #[.string a2_0, .int .i64 a2_1] 23 (0, 0))) ∧ (Below w.heap.size w w')) ?_ ?_
              rotate_left
              ·intro hJ2
               refine join_ (σ := Value) 10 #[true, true, false, true, false, false, false, false, false, false, false, false, false] (fun s_ => [(169, s_)]) (fun s_ w' => (Kd.R (Kd.int .i64) 3 w' w.heap.size (fun _ => True) s_ y30011) ∧ (Kd.R k23 23 w' w.heap.size (fun k_ => k_ ≠ gb30001) (.slice Ao18 y30006.length co18) y30006) ∧ (w'.heap[gb30001]? = some (.cells #[.string a2_0, .int .i64 a2_1] 23 (0, 0))) ∧ (Below w.heap.size w w')) ?_ ?_
               rotate_left
               ·intro hJ3
                refine join_ (σ := Nat) 10 #[true, true, false, false, false, false, false, false, false, true, false, false, false] (fun s_ => [(36, .pointer (some ⟨s_, 0, none⟩))]) (fun s_ w' => (Kd.R k23 23 w' w.heap.size (fun k_ => k_ ≠ gb30001 ∧ k_ ≠ s_) (.slice Ao18 y30006.length co18) y30006) ∧ (w'.heap[gb30001]? = some (.cells #[.string a2_0, .int .i64 a2_1] 23 (0, 0))) ∧ (w'.heap[s_]? = some (.cells #[.string (⟨#[]⟩ : ByteArray), .int .i64 0] 23 (0, 0))) ∧ (w.heap.size ≤ s_) ∧ (w.heap.size ≤ s_) ∧ (gb30001 ≠ s_) ∧ (s_ ≠ gb30001) ∧ (Below w.heap.size w w')) ?_ ?_
                rotate_left
                ·intro hJ9
                 refine three_ (i := 2) (j := 3) (k := 9) (Ni := some 168) (Nj := some 169) (Nk := some 36) #[true, true, true, false, false, false, false, false, false, false, false, false, false] #[true, true, false, true, false, false, false, false, false, false, false, false, false] #[true, true, false, false, false, false, false, false, false, true, false, false, false] rfl rfl rfl rfl rfl rfl (three_of HT_.out (by kernel_rfl)) (by decide) (by decide) (by decide) (fun K hK => ?_) (fun K hK => ?_) (fun K hK => ?_)
                 ·skip
                  refine goes_ Try.func15 (by kernel_rfl) rfl #[.string a0, .int .i64 a1] (by rfl) rfl rfl (by (try simp only [List.map_toArray, List.map_cons, List.map_nil]); first | done | rfl | (simp only [List.length_drop, List.length_take]; rfl)) ?_
                  with_reducible refine (columbariumlaw07_Tape.calls a0 a1 t30009 t30010 _ A120.out).mono ?_
                  rintro e w125 ⟨rfl, hb⟩
                  refine ⟨_, rfl, ?_⟩
                  have n0_ := Aside0.mk (Kd.R_below (by (with_reducible repeat (first | apply Kd.R_alloc | apply Kd.R_drewN | apply Kd.R_drew)); exact HO_48.out) hb)
                  have n1_ := Aside0.mk (blk_below (g := gb30001) (o := .cells #[.string a2_0, .int .i64 a2_1] 23 (0, 0)) (by (with_reducible repeat (first | refine blk_drewN ?_ _ | refine blk_drew ?_ | refine blk_alloc ?_ _)); exact BK30001.out) hb)
                  have n2_ := Aside0.mk (below_step (by repeat (first | (with_reducible first | exact HB.out | apply below_alloc | apply pw_below_drewN | apply below_drew1 | refine below_set ?_ GE30001.out) | exact HB.out)) hb)
                  clear HO_48
                  clear BK30001
                  clear HB
                  have HO_48 := n0_
                  have BK30001 := n1_
                  have HB := n2_
                  clear n0_ n1_ n2_
                  (try clear hb)
                  (try clear hb2)
                  (try clear hk)
                  (try clear hi)
                  refine hK.out _ _ trivial (fun hHeld => ?_)
                  clear hK K
                  refine norm_ (a' := ?_) ?_ ?_
                  rotate_left
                  ·show Act.put _ (some 168) _ = _
                   simp only [Act.put, List.setIfInBounds_toArray, List.set_cons_zero, List.set_cons_succ, i64_w, i32_w]
                   rfl
                  exact norm_ (by first | (simp only [putAll, Act.put, List.setIfInBounds_toArray, List.set_cons_zero, List.set_cons_succ]; done) | (simp only [putAll, Act.put, List.setIfInBounds_toArray, List.set_cons_zero, List.set_cons_succ]; rfl)) (hJ2 () _ ⟨(by (with_reducible repeat (first | apply Kd.R_alloc | apply Kd.R_drewN | apply Kd.R_drew)); exact HO_48.out), (by (with_reducible repeat (first | refine blk_drewN ?_ _ | refine blk_drew ?_ | refine blk_alloc ?_ _)); exact BK30001.out), (by repeat (first | (with_reducible first | exact HB.out | apply below_alloc | apply pw_below_drewN | apply below_drew1 | refine below_set ?_ GE30001.out) | exact HB.out))⟩)
                 ·skip
                  refine Kd.R_make_step (Kd.int .i64) _ 3 (by rfl) (N := 169) rfl 24 _ _ rfl 1001 rfl rfl Try.underlying24 (.int .i64 0) 8 info3 rfl (by decide) (by omega) 0 (ok := fun _ => True) (okp := fun _ => True) rfl (fun _ hk => hk) trivial (by omega) (by omega) (Below.refl _ _) (Nat.le_refl _) ?_
                  intro v30012 w125 ho126 hb hg_ hnew_
                  clear hg_ hnew_
                  (first | rw [← Ny30011.out] at ho126 | (simp only [Int.reduceToNat] at ho126; rw [← Ny30011.out] at ho126))
                  have n0_ := Aside0.mk (Kd.R_below (by (with_reducible repeat (first | apply Kd.R_alloc | apply Kd.R_drewN | apply Kd.R_drew)); exact HO_48.out) hb)
                  have n1_ := Aside0.mk (Kd.R_lower ho126 (below_size (by repeat (first | (with_reducible first | exact HB.out | apply below_alloc | apply pw_below_drewN | apply below_drew1 | refine below_set ?_ GE30001.out) | exact HB.out))))
                  have n2_ := Aside0.mk (blk_below (g := gb30001) (o := .cells #[.string a2_0, .int .i64 a2_1] 23 (0, 0)) (by (with_reducible repeat (first | refine blk_drewN ?_ _ | refine blk_drew ?_ | refine blk_alloc ?_ _)); exact BK30001.out) hb)
                  have n3_ := Aside0.mk (below_step (by repeat (first | (with_reducible first | exact HB.out | apply below_alloc | apply pw_below_drewN | apply below_drew1 | refine below_set ?_ GE30001.out) | exact HB.out)) hb)
                  clear HO_48
                  clear BK30001
                  clear HB
                  have HO_48 := n0_
                  have HO30013 := n1_
                  have BK30001 := n2_
                  have HB := n3_
                  clear n0_ n1_ n2_ n3_
                  clear hb ho126
                  refine hK.out _ _ trivial (fun hHeld => ?_)
                  clear hK K
                  refine norm_ (a' := ?_) ?_ ?_
                  rotate_left
                  ·show Act.put _ (some 169) _ = _
                   simp only [Act.put, List.setIfInBounds_toArray, List.set_cons_zero, List.set_cons_succ, i64_w, i32_w]
                   rfl
                  exact norm_ (by first | (simp only [putAll, Act.put, List.setIfInBounds_toArray, List.set_cons_zero, List.set_cons_succ]; done) | (simp only [putAll, Act.put, List.setIfInBounds_toArray, List.set_cons_zero, List.set_cons_succ]; rfl)) (hJ3 (v30012) _ ⟨(by (with_reducible repeat (first | apply Kd.R_alloc | apply Kd.R_drewN | apply Kd.R_drew)); exact HO30013.out), (by (with_reducible repeat (first | apply Kd.R_alloc | apply Kd.R_drewN | apply Kd.R_drew)); exact HO_48.out), (by (with_reducible repeat (first | refine blk_drewN ?_ _ | refine blk_drew ?_ | refine blk_alloc ?_ _)); exact BK30001.out), (by repeat (first | (with_reducible first | exact HB.out | apply below_alloc | apply pw_below_drewN | apply below_drew1 | refine below_set ?_ GE30001.out) | exact HB.out))⟩)
                 ·skip
                  refine box_step ?hg (N := 36) ?hd (cs := #[.string (⟨#[]⟩ : ByteArray), .int .i64 0]) (t := 23) ?hr ?_; (case hd => rfl); (case hg => rfl); (case hr => first | (go_simp; done) | (go_simp; rfl))
                  intro gb30020 hg w125 hbox hb
                  have n0_ := Aside0.mk (Kd.R_below (Kd.R_elderB (by (with_reducible repeat (first | apply Kd.R_alloc | apply Kd.R_drewN | apply Kd.R_drew)); exact HO_48.out) gb30020 (Nat.le_of_eq hg.symm)) hb)
                  have n1_ := Aside0.mk (blk_below (g := gb30001) (o := .cells #[.string a2_0, .int .i64 a2_1] 23 (0, 0)) (by (with_reducible repeat (first | refine blk_drewN ?_ _ | refine blk_drew ?_ | refine blk_alloc ?_ _)); exact BK30001.out) hb)
                  have n2_ := Aside0.mk (below_step (by repeat (first | (with_reducible first | exact HB.out | apply below_alloc | apply pw_below_drewN | apply below_drew1 | refine below_set ?_ GE30001.out) | exact HB.out)) hb)
                  have n3_ := Aside0.mk (hbox)
                  have n4_ := Aside0.mk ((by rw [hg]; exact (below_size (by repeat (first | (with_reducible first | exact HB.out | apply below_alloc | apply pw_below_drewN | apply below_drew1 | refine below_set ?_ GE30001.out) | exact HB.out))) : w.heap.size ≤ gb30020))
                  have n5_ := Aside0.mk ((by rw [hg]; exact (below_size (by repeat (first | (with_reducible first | exact HB.out | apply below_alloc | apply pw_below_drewN | apply below_drew1 | refine below_set ?_ GE30001.out) | exact HB.out))) : w.heap.size ≤ gb30020))
                  have n6_ := Aside0.mk ((by rw [hg]; exact Nat.ne_of_lt (blk_lt (g := gb30001) (o := .cells #[.string a2_0, .int .i64 a2_1] 23 (0, 0)) (by (with_reducible repeat (first | refine blk_drewN ?_ _ | refine blk_drew ?_ | refine blk_alloc ?_ _)); exact BK30001.out)) : gb30001 ≠ gb30020))
                  have n7_ := Aside0.mk ((by rw [hg]; exact Nat.ne_of_gt (blk_lt (g := gb30001) (o := .cells #[.string a2_0, .int .i64 a2_1] 23 (0, 0)) (by (with_reducible repeat (first | refine blk_drewN ?_ _ | refine blk_drew ?_ | refine blk_alloc ?_ _)); exact BK30001.out)) : gb30020 ≠ gb30001))
                  clear HO_48
                  clear BK30001
                  clear HB
                  have HO_48 := n0_
                  have BK30001 := n1_
                  have HB := n2_
                  have BK30020 := n3_
                  have GW30020 := n4_
                  have GE30020 := n5_
                  have NB30001_30020 := n6_
                  have NB30020_30001 := n7_
                  clear n0_ n1_ n2_ n3_ n4_ n5_ n6_ n7_
                  clear hb hbox hg
                  refine hK.out _ _ trivial (fun hHeld => ?_)
                  clear hK K
                  refine norm_ (a' := ?_) ?_ ?_
                  rotate_left
                  ·show Act.put _ (some 36) _ = _
                   simp only [Act.put, List.setIfInBounds_toArray, List.set_cons_zero, List.set_cons_succ, i64_w, i32_w]
                   rfl
                  exact norm_ (by first | (simp only [putAll, Act.put, List.setIfInBounds_toArray, List.set_cons_zero, List.set_cons_succ]; done) | (simp only [putAll, Act.put, List.setIfInBounds_toArray, List.set_cons_zero, List.set_cons_succ]; rfl)) (hJ9 (gb30020) _ ⟨(by (with_reducible repeat (first | apply Kd.R_alloc | apply Kd.R_drewN | apply Kd.R_drew)); exact HO_48.out), (by (with_reducible repeat (first | refine blk_drewN ?_ _ | refine blk_drew ?_ | refine blk_alloc ?_ _)); exact BK30001.out), (by (with_reducible repeat (first | refine blk_drewN ?_ _ | refine blk_drew ?_ | refine blk_alloc ?_ _)); exact BK30020.out), GW30020.out, GE30020.out, NB30001_30020.out, NB30020_30001.out, (by repeat (first | (with_reducible first | exact HB.out | apply below_alloc | apply pw_below_drewN | apply below_drew1 | refine below_set ?_ GE30001.out | refine below_set ?_ GE30020.out) | exact HB.out))⟩)
                ·skip
                 rintro gb30020 w126 ⟨h0_, h1_, h2_, h3_, h4_, h5_, h6_, h7_⟩
                 have n0_ : Aside0 (Kd.R k23 23 w126 w.heap.size (fun k_ => k_ ≠ gb30001 ∧ k_ ≠ gb30020) (.slice Ao18 y30006.length co18) y30006) := ⟨h0_⟩
                 have n1_ : Aside0 (w126.heap[gb30001]? = some (.cells #[.string a2_0, .int .i64 a2_1] 23 (0, 0))) := ⟨h1_⟩
                 have n2_ : Aside0 (w126.heap[gb30020]? = some (.cells #[.string (⟨#[]⟩ : ByteArray), .int .i64 0] 23 (0, 0))) := ⟨h2_⟩
                 have n3_ : Aside0 (w.heap.size ≤ gb30020) := ⟨h3_⟩
                 have n4_ : Aside0 (w.heap.size ≤ gb30020) := ⟨h4_⟩
                 have n5_ : Aside0 (gb30001 ≠ gb30020) := ⟨h5_⟩
                 have n6_ : Aside0 (gb30020 ≠ gb30001) := ⟨h6_⟩
                 have n7_ : Aside0 (Below w.heap.size w w126) := ⟨h7_⟩
                 clear HO_48
                 clear BK30001
                 clear HB
                 clear h0_ h1_ h2_ h3_ h4_ h5_ h6_ h7_
                 have HO_48 := n0_
                 have BK30001 := n1_
                 have BK30020 := n2_
                 have GW30020 := n3_
                 have GE30020 := n4_
                 have NB30001_30020 := n5_
                 have NB30020_30001 := n6_
                 have HB := n7_
                 clear n0_ n1_ n2_ n3_ n4_ n5_ n6_ n7_
                 have hHeld := trivial
                 refine norm_ (a' := ?_) ?_ ?_
                 rotate_left
                 ·simp only [putAll, Act.put, List.setIfInBounds_toArray, List.set_cons_zero, List.set_cons_succ]
                  rfl
                 refine two_ (i := 2) (j := 3) (Ni := some 168) (Nj := some 169) #[true, true, true, false, false, false, false, false, false, true, false, false, false] #[true, true, false, true, false, false, false, false, false, true, false, false, false] rfl rfl rfl rfl (two_of HT_.out (by kernel_rfl)) (by decide) (by decide) (fun K hK => ?_) (fun K hK => ?_)
                 ·skip
                  refine goes_ Try.func15 (by kernel_rfl) rfl #[.string a0, .int .i64 a1] (by rfl) rfl rfl (by (try simp only [List.map_toArray, List.map_cons, List.map_nil]); first | done | rfl | (simp only [List.length_drop, List.length_take]; rfl)) ?_
                  with_reducible refine (columbariumlaw07_Tape.calls a0 a1 t30009 t30010 _ A120.out).mono ?_
                  rintro e w127 ⟨rfl, hb⟩
                  refine ⟨_, rfl, ?_⟩
                  have n0_ := Aside0.mk (Kd.R_below (by (with_reducible repeat (first | apply Kd.R_alloc | apply Kd.R_drewN | apply Kd.R_drew)); exact HO_48.out) hb)
                  have n1_ := Aside0.mk (blk_below (g := gb30001) (o := .cells #[.string a2_0, .int .i64 a2_1] 23 (0, 0)) (by (with_reducible repeat (first | refine blk_drewN ?_ _ | refine blk_drew ?_ | refine blk_alloc ?_ _)); exact BK30001.out) hb)
                  have n2_ := Aside0.mk (blk_below (g := gb30020) (o := .cells #[.string (⟨#[]⟩ : ByteArray), .int .i64 0] 23 (0, 0)) (by (with_reducible repeat (first | refine blk_drewN ?_ _ | refine blk_drew ?_ | refine blk_alloc ?_ _)); exact BK30020.out) hb)
                  have n3_ := Aside0.mk (below_step (by repeat (first | (with_reducible first | exact HB.out | apply below_alloc | apply pw_below_drewN | apply below_drew1 | refine below_set ?_ GE30001.out | refine below_set ?_ GE30020.out) | exact HB.out)) hb)
                  clear HO_48
                  clear BK30001
                  clear BK30020
                  clear HB
                  have HO_48 := n0_
                  have BK30001 := n1_
                  have BK30020 := n2_
                  have HB := n3_
                  clear n0_ n1_ n2_ n3_
                  (try clear hb)
                  (try clear hb2)
                  (try clear hk)
                  (try clear hi)
                  refine hK.out _ _ trivial (fun hHeld => ?_)
                  clear hK K
                  refine norm_ (a' := ?_) ?_ ?_
                  rotate_left
                  ·show Act.put _ (some 168) _ = _
                   simp only [Act.put, List.setIfInBounds_toArray, List.set_cons_zero, List.set_cons_succ, i64_w, i32_w]
                   rfl
                  exact norm_ (by first | (simp only [putAll, Act.put, List.setIfInBounds_toArray, List.set_cons_zero, List.set_cons_succ]; done) | (simp only [putAll, Act.put, List.setIfInBounds_toArray, List.set_cons_zero, List.set_cons_succ]; rfl)) (hJ2_9 (gb30020) _ ⟨(by (with_reducible repeat (first | apply Kd.R_alloc | apply Kd.R_drewN | apply Kd.R_drew)); exact HO_48.out), (by (with_reducible repeat (first | refine blk_drewN ?_ _ | refine blk_drew ?_ | refine blk_alloc ?_ _)); exact BK30001.out), (by (with_reducible repeat (first | refine blk_drewN ?_ _ | refine blk_drew ?_ | refine blk_alloc ?_ _)); exact BK30020.out), GW30020.out, GE30020.out, NB30001_30020.out, NB30020_30001.out, (by repeat (first | (with_reducible first | exact HB.out | apply below_alloc | apply pw_below_drewN | apply below_drew1 | refine below_set ?_ GE30001.out | refine below_set ?_ GE30020.out) | exact HB.out))⟩)
                 ·skip
                  refine Kd.R_make_step (Kd.int .i64) _ 3 (by rfl) (N := 169) rfl 24 _ _ rfl 1001 rfl rfl Try.underlying24 (.int .i64 0) 8 info3 rfl (by decide) (by omega) 0 (ok := fun _ => True) (okp := fun _ => True) rfl (fun _ hk => hk) trivial (by omega) (by omega) (Below.refl _ _) (Nat.le_refl _) ?_
                  intro v30012 w127 ho128 hb hg_ hnew_
                  clear hg_ hnew_
                  (first | rw [← Ny30011.out] at ho128 | (simp only [Int.reduceToNat] at ho128; rw [← Ny30011.out] at ho128))
                  have n0_ := Aside0.mk (Kd.R_below (by (with_reducible repeat (first | apply Kd.R_alloc | apply Kd.R_drewN | apply Kd.R_drew)); exact HO_48.out) hb)
                  have n1_ := Aside0.mk (Kd.R_lower ho128 (below_size (by repeat (first | (with_reducible first | exact HB.out | apply below_alloc | apply pw_below_drewN | apply below_drew1 | refine below_set ?_ GE30001.out | refine below_set ?_ GE30020.out) | exact HB.out))))
                  have n2_ := Aside0.mk (blk_below (g := gb30001) (o := .cells #[.string a2_0, .int .i64 a2_1] 23 (0, 0)) (by (with_reducible repeat (first | refine blk_drewN ?_ _ | refine blk_drew ?_ | refine blk_alloc ?_ _)); exact BK30001.out) hb)
                  have n3_ := Aside0.mk (blk_below (g := gb30020) (o := .cells #[.string (⟨#[]⟩ : ByteArray), .int .i64 0] 23 (0, 0)) (by (with_reducible repeat (first | refine blk_drewN ?_ _ | refine blk_drew ?_ | refine blk_alloc ?_ _)); exact BK30020.out) hb)
                  have n4_ := Aside0.mk (below_step (by repeat (first | (with_reducible first | exact HB.out | apply below_alloc | apply pw_below_drewN | apply below_drew1 | refine below_set ?_ GE30001.out | refine below_set ?_ GE30020.out) | exact HB.out)) hb)
                  clear HO_48
                  clear BK30001
                  clear BK30020
                  clear HB
                  have HO_48 := n0_
                  have HO30013 := n1_
                  have BK30001 := n2_
                  have BK30020 := n3_
                  have HB := n4_
                  clear n0_ n1_ n2_ n3_ n4_
                  clear hb ho128
                  refine hK.out _ _ trivial (fun hHeld => ?_)
                  clear hK K
                  refine norm_ (a' := ?_) ?_ ?_
                  rotate_left
                  ·show Act.put _ (some 169) _ = _
                   simp only [Act.put, List.setIfInBounds_toArray, List.set_cons_zero, List.set_cons_succ, i64_w, i32_w]
                   rfl
                  exact norm_ (by first | (simp only [putAll, Act.put, List.setIfInBounds_toArray, List.set_cons_zero, List.set_cons_succ]; done) | (simp only [putAll, Act.put, List.setIfInBounds_toArray, List.set_cons_zero, List.set_cons_succ]; rfl)) (hJ3_9 (v30012, gb30020) _ ⟨(by (with_reducible repeat (first | apply Kd.R_alloc | apply Kd.R_drewN | apply Kd.R_drew)); exact HO30013.out), (by (with_reducible repeat (first | apply Kd.R_alloc | apply Kd.R_drewN | apply Kd.R_drew)); exact HO_48.out), (by (with_reducible repeat (first | refine blk_drewN ?_ _ | refine blk_drew ?_ | refine blk_alloc ?_ _)); exact BK30001.out), (by (with_reducible repeat (first | refine blk_drewN ?_ _ | refine blk_drew ?_ | refine blk_alloc ?_ _)); exact BK30020.out), GW30020.out, GE30020.out, NB30001_30020.out, NB30020_30001.out, (by repeat (first | (with_reducible first | exact HB.out | apply below_alloc | apply pw_below_drewN | apply below_drew1 | refine below_set ?_ GE30001.out | refine below_set ?_ GE30020.out) | exact HB.out))⟩)
               ·skip
                rintro v30012 w127 ⟨h0_, h1_, h2_, h3_⟩
                have n0_ : Aside0 (Kd.R (Kd.int .i64) 3 w127 w.heap.size (fun _ => True) v30012 y30011) := ⟨h0_⟩
                have n1_ : Aside0 (Kd.R k23 23 w127 w.heap.size (fun k_ => k_ ≠ gb30001) (.slice Ao18 y30006.length co18) y30006) := ⟨h1_⟩
                have n2_ : Aside0 (w127.heap[gb30001]? = some (.cells #[.string a2_0, .int .i64 a2_1] 23 (0, 0))) := ⟨h2_⟩
                have n3_ : Aside0 (Below w.heap.size w w127) := ⟨h3_⟩
                clear HO_48
                clear BK30001
                clear HB
                clear h0_ h1_ h2_ h3_
                have HO30013 := n0_
                have HO_48 := n1_
                have BK30001 := n2_
                have HB := n3_
                clear n0_ n1_ n2_ n3_
                have hHeld := trivial
                refine norm_ (a' := ?_) ?_ ?_
                rotate_left
                ·simp only [putAll, Act.put, List.setIfInBounds_toArray, List.set_cons_zero, List.set_cons_succ]
                 rfl
                refine two_ (i := 2) (j := 9) (Ni := some 168) (Nj := some 36) #[true, true, true, true, false, false, false, false, false, false, false, false, false] #[true, true, false, true, false, false, false, false, false, true, false, false, false] rfl rfl rfl rfl (two_of HT_.out (by kernel_rfl)) (by decide) (by decide) (fun K hK => ?_) (fun K hK => ?_)
                ·skip
                 refine goes_ Try.func15 (by kernel_rfl) rfl #[.string a0, .int .i64 a1] (by rfl) rfl rfl (by (try simp only [List.map_toArray, List.map_cons, List.map_nil]); first | done | rfl | (simp only [List.length_drop, List.length_take]; rfl)) ?_
                 with_reducible refine (columbariumlaw07_Tape.calls a0 a1 t30009 t30010 _ A120.out).mono ?_
                 rintro e w128 ⟨rfl, hb⟩
                 refine ⟨_, rfl, ?_⟩
                 have n0_ := Aside0.mk (Kd.R_below (by (with_reducible repeat (first | apply Kd.R_alloc | apply Kd.R_drewN | apply Kd.R_drew)); exact HO_48.out) hb)
                 have n1_ := Aside0.mk (Kd.R_below (by (with_reducible repeat (first | apply Kd.R_alloc | apply Kd.R_drewN | apply Kd.R_drew)); exact HO30013.out) hb)
                 have n2_ := Aside0.mk (blk_below (g := gb30001) (o := .cells #[.string a2_0, .int .i64 a2_1] 23 (0, 0)) (by (with_reducible repeat (first | refine blk_drewN ?_ _ | refine blk_drew ?_ | refine blk_alloc ?_ _)); exact BK30001.out) hb)
                 have n3_ := Aside0.mk (below_step (by repeat (first | (with_reducible first | exact HB.out | apply below_alloc | apply pw_below_drewN | apply below_drew1 | refine below_set ?_ GE30001.out) | exact HB.out)) hb)
                 clear HO_48
                 clear HO30013
                 clear BK30001
                 clear HB
                 have HO_48 := n0_
                 have HO30013 := n1_
                 have BK30001 := n2_
                 have HB := n3_
                 clear n0_ n1_ n2_ n3_
                 (try clear hb)
                 (try clear hb2)
                 (try clear hk)
                 (try clear hi)
                 refine hK.out _ _ trivial (fun hHeld => ?_)
                 clear hK K
                 refine norm_ (a' := ?_) ?_ ?_
                 rotate_left
                 ·show Act.put _ (some 168) _ = _
                  simp only [Act.put, List.setIfInBounds_toArray, List.set_cons_zero, List.set_cons_succ, i64_w, i32_w]
                  rfl
                 exact norm_ (by first | (simp only [putAll, Act.put, List.setIfInBounds_toArray, List.set_cons_zero, List.set_cons_succ]; done) | (simp only [putAll, Act.put, List.setIfInBounds_toArray, List.set_cons_zero, List.set_cons_succ]; rfl)) (hJ2_3 (v30012) _ ⟨(by (with_reducible repeat (first | apply Kd.R_alloc | apply Kd.R_drewN | apply Kd.R_drew)); exact HO30013.out), (by (with_reducible repeat (first | apply Kd.R_alloc | apply Kd.R_drewN | apply Kd.R_drew)); exact HO_48.out), (by (with_reducible repeat (first | refine blk_drewN ?_ _ | refine blk_drew ?_ | refine blk_alloc ?_ _)); exact BK30001.out), (by repeat (first | (with_reducible first | exact HB.out | apply below_alloc | apply pw_below_drewN | apply below_drew1 | refine below_set ?_ GE30001.out) | exact HB.out))⟩)
                ·skip
                 refine box_step ?hg (N := 36) ?hd (cs := #[.string (⟨#[]⟩ : ByteArray), .int .i64 0]) (t := 23) ?hr ?_; (case hd => rfl); (case hg => rfl); (case hr => first | (go_simp; done) | (go_simp; rfl))
                 intro gb30020 hg w128 hbox hb
                 have n0_ := Aside0.mk (Kd.R_below (Kd.R_elderB (by (with_reducible repeat (first | apply Kd.R_alloc | apply Kd.R_drewN | apply Kd.R_drew)); exact HO_48.out) gb30020 (Nat.le_of_eq hg.symm)) hb)
                 have n1_ := Aside0.mk (Kd.R_below (by (with_reducible repeat (first | apply Kd.R_alloc | apply Kd.R_drewN | apply Kd.R_drew)); exact HO30013.out) hb)
                 have n2_ := Aside0.mk (blk_below (g := gb30001) (o := .cells #[.string a2_0, .int .i64 a2_1] 23 (0, 0)) (by (with_reducible repeat (first | refine blk_drewN ?_ _ | refine blk_drew ?_ | refine blk_alloc ?_ _)); exact BK30001.out) hb)
                 have n3_ := Aside0.mk (below_step (by repeat (first | (with_reducible first | exact HB.out | apply below_alloc | apply pw_below_drewN | apply below_drew1 | refine below_set ?_ GE30001.out) | exact HB.out)) hb)
                 have n4_ := Aside0.mk (hbox)
                 have n5_ := Aside0.mk ((by rw [hg]; exact (below_size (by repeat (first | (with_reducible first | exact HB.out | apply below_alloc | apply pw_below_drewN | apply below_drew1 | refine below_set ?_ GE30001.out) | exact HB.out))) : w.heap.size ≤ gb30020))
                 have n6_ := Aside0.mk ((by rw [hg]; exact (below_size (by repeat (first | (with_reducible first | exact HB.out | apply below_alloc | apply pw_below_drewN | apply below_drew1 | refine below_set ?_ GE30001.out) | exact HB.out))) : w.heap.size ≤ gb30020))
                 have n7_ := Aside0.mk ((by rw [hg]; exact Nat.ne_of_lt (blk_lt (g := gb30001) (o := .cells #[.string a2_0, .int .i64 a2_1] 23 (0, 0)) (by (with_reducible repeat (first | refine blk_drewN ?_ _ | refine blk_drew ?_ | refine blk_alloc ?_ _)); exact BK30001.out)) : gb30001 ≠ gb30020))
                 have n8_ := Aside0.mk ((by rw [hg]; exact Nat.ne_of_gt (blk_lt (g := gb30001) (o := .cells #[.string a2_0, .int .i64 a2_1] 23 (0, 0)) (by (with_reducible repeat (first | refine blk_drewN ?_ _ | refine blk_drew ?_ | refine blk_alloc ?_ _)); exact BK30001.out)) : gb30020 ≠ gb30001))
                 clear HO_48
                 clear HO30013
                 clear BK30001
                 clear HB
                 have HO_48 := n0_
                 have HO30013 := n1_
                 have BK30001 := n2_
                 have HB := n3_
                 have BK30020 := n4_
                 have GW30020 := n5_
                 have GE30020 := n6_
                 have NB30001_30020 := n7_
                 have NB30020_30001 := n8_
                 clear n0_ n1_ n2_ n3_ n4_ n5_ n6_ n7_ n8_
                 clear hb hbox hg
                 refine hK.out _ _ trivial (fun hHeld => ?_)
                 clear hK K
                 refine norm_ (a' := ?_) ?_ ?_
                 rotate_left
                 ·show Act.put _ (some 36) _ = _
                  simp only [Act.put, List.setIfInBounds_toArray, List.set_cons_zero, List.set_cons_succ, i64_w, i32_w]
                  rfl
                 exact norm_ (by first | (simp only [putAll, Act.put, List.setIfInBounds_toArray, List.set_cons_zero, List.set_cons_succ]; done) | (simp only [putAll, Act.put, List.setIfInBounds_toArray, List.set_cons_zero, List.set_cons_succ]; rfl)) (hJ3_9 (v30012, gb30020) _ ⟨(by (with_reducible repeat (first | apply Kd.R_alloc | apply Kd.R_drewN | apply Kd.R_drew)); exact HO30013.out), (by (with_reducible repeat (first | apply Kd.R_alloc | apply Kd.R_drewN | apply Kd.R_drew)); exact HO_48.out), (by (with_reducible repeat (first | refine blk_drewN ?_ _ | refine blk_drew ?_ | refine blk_alloc ?_ _)); exact BK30001.out), (by (with_reducible repeat (first | refine blk_drewN ?_ _ | refine blk_drew ?_ | refine blk_alloc ?_ _)); exact BK30020.out), GW30020.out, GE30020.out, NB30001_30020.out, NB30020_30001.out, (by repeat (first | (with_reducible first | exact HB.out | apply below_alloc | apply pw_below_drewN | apply below_drew1 | refine below_set ?_ GE30001.out | refine below_set ?_ GE30020.out) | exact HB.out))⟩)
              ·skip
               rintro _ w126 ⟨h0_, h1_, h2_⟩
               have n0_ : Aside0 (Kd.R k23 23 w126 w.heap.size (fun k_ => k_ ≠ gb30001) (.slice Ao18 y30006.length co18) y30006) := ⟨h0_⟩
               have n1_ : Aside0 (w126.heap[gb30001]? = some (.cells #[.string a2_0, .int .i64 a2_1] 23 (0, 0))) := ⟨h1_⟩
               have n2_ : Aside0 (Below w.heap.size w w126) := ⟨h2_⟩
               clear HO_48
               clear BK30001
               clear HB
               clear h0_ h1_ h2_
               have HO_48 := n0_
               have BK30001 := n1_
               have HB := n2_
               clear n0_ n1_ n2_
               have hHeld := trivial
               refine norm_ (a' := ?_) ?_ ?_
               rotate_left
               ·simp only [putAll, Act.put, List.setIfInBounds_toArray, List.set_cons_zero, List.set_cons_succ]
                rfl
               refine two_ (i := 3) (j := 9) (Ni := some 169) (Nj := some 36) #[true, true, true, true, false, false, false, false, false, false, false, false, false] #[true, true, true, false, false, false, false, false, false, true, false, false, false] rfl rfl rfl rfl (two_of HT_.out (by kernel_rfl)) (by decide) (by decide) (fun K hK => ?_) (fun K hK => ?_)
               ·skip
                refine Kd.R_make_step (Kd.int .i64) _ 3 (by rfl) (N := 169) rfl 24 _ _ rfl 1001 rfl rfl Try.underlying24 (.int .i64 0) 8 info3 rfl (by decide) (by omega) 0 (ok := fun _ => True) (okp := fun _ => True) rfl (fun _ hk => hk) trivial (by omega) (by omega) (Below.refl _ _) (Nat.le_refl _) ?_
                intro v30012 w127 ho128 hb hg_ hnew_
                clear hg_ hnew_
                (first | rw [← Ny30011.out] at ho128 | (simp only [Int.reduceToNat] at ho128; rw [← Ny30011.out] at ho128))
                have n0_ := Aside0.mk (Kd.R_below (by (with_reducible repeat (first | apply Kd.R_alloc | apply Kd.R_drewN | apply Kd.R_drew)); exact HO_48.out) hb)
                have n1_ := Aside0.mk (Kd.R_lower ho128 (below_size (by repeat (first | (with_reducible first | exact HB.out | apply below_alloc | apply pw_below_drewN | apply below_drew1 | refine below_set ?_ GE30001.out) | exact HB.out))))
                have n2_ := Aside0.mk (blk_below (g := gb30001) (o := .cells #[.string a2_0, .int .i64 a2_1] 23 (0, 0)) (by (with_reducible repeat (first | refine blk_drewN ?_ _ | refine blk_drew ?_ | refine blk_alloc ?_ _)); exact BK30001.out) hb)
                have n3_ := Aside0.mk (below_step (by repeat (first | (with_reducible first | exact HB.out | apply below_alloc | apply pw_below_drewN | apply below_drew1 | refine below_set ?_ GE30001.out) | exact HB.out)) hb)
                clear HO_48
                clear BK30001
                clear HB
                have HO_48 := n0_
                have HO30013 := n1_
                have BK30001 := n2_
                have HB := n3_
                clear n0_ n1_ n2_ n3_
                clear hb ho128
                refine hK.out _ _ trivial (fun hHeld => ?_)
                clear hK K
                refine norm_ (a' := ?_) ?_ ?_
                rotate_left
                ·show Act.put _ (some 169) _ = _
                 simp only [Act.put, List.setIfInBounds_toArray, List.set_cons_zero, List.set_cons_succ, i64_w, i32_w]
                 rfl
                exact norm_ (by first | (simp only [putAll, Act.put, List.setIfInBounds_toArray, List.set_cons_zero, List.set_cons_succ]; done) | (simp only [putAll, Act.put, List.setIfInBounds_toArray, List.set_cons_zero, List.set_cons_succ]; rfl)) (hJ2_3 (v30012) _ ⟨(by (with_reducible repeat (first | apply Kd.R_alloc | apply Kd.R_drewN | apply Kd.R_drew)); exact HO30013.out), (by (with_reducible repeat (first | apply Kd.R_alloc | apply Kd.R_drewN | apply Kd.R_drew)); exact HO_48.out), (by (with_reducible repeat (first | refine blk_drewN ?_ _ | refine blk_drew ?_ | refine blk_alloc ?_ _)); exact BK30001.out), (by repeat (first | (with_reducible first | exact HB.out | apply below_alloc | apply pw_below_drewN | apply below_drew1 | refine below_set ?_ GE30001.out) | exact HB.out))⟩)
               ·skip
                refine box_step ?hg (N := 36) ?hd (cs := #[.string (⟨#[]⟩ : ByteArray), .int .i64 0]) (t := 23) ?hr ?_; (case hd => rfl); (case hg => rfl); (case hr => first | (go_simp; done) | (go_simp; rfl))
                intro gb30020 hg w127 hbox hb
                have n0_ := Aside0.mk (Kd.R_below (Kd.R_elderB (by (with_reducible repeat (first | apply Kd.R_alloc | apply Kd.R_drewN | apply Kd.R_drew)); exact HO_48.out) gb30020 (Nat.le_of_eq hg.symm)) hb)
                have n1_ := Aside0.mk (blk_below (g := gb30001) (o := .cells #[.string a2_0, .int .i64 a2_1] 23 (0, 0)) (by (with_reducible repeat (first | refine blk_drewN ?_ _ | refine blk_drew ?_ | refine blk_alloc ?_ _)); exact BK30001.out) hb)
                have n2_ := Aside0.mk (below_step (by repeat (first | (with_reducible first | exact HB.out | apply below_alloc | apply pw_below_drewN | apply below_drew1 | refine below_set ?_ GE30001.out) | exact HB.out)) hb)
                have n3_ := Aside0.mk (hbox)
                have n4_ := Aside0.mk ((by rw [hg]; exact (below_size (by repeat (first | (with_reducible first | exact HB.out | apply below_alloc | apply pw_below_drewN | apply below_drew1 | refine below_set ?_ GE30001.out) | exact HB.out))) : w.heap.size ≤ gb30020))
                have n5_ := Aside0.mk ((by rw [hg]; exact (below_size (by repeat (first | (with_reducible first | exact HB.out | apply below_alloc | apply pw_below_drewN | apply below_drew1 | refine below_set ?_ GE30001.out) | exact HB.out))) : w.heap.size ≤ gb30020))
                have n6_ := Aside0.mk ((by rw [hg]; exact Nat.ne_of_lt (blk_lt (g := gb30001) (o := .cells #[.string a2_0, .int .i64 a2_1] 23 (0, 0)) (by (with_reducible repeat (first | refine blk_drewN ?_ _ | refine blk_drew ?_ | refine blk_alloc ?_ _)); exact BK30001.out)) : gb30001 ≠ gb30020))
                have n7_ := Aside0.mk ((by rw [hg]; exact Nat.ne_of_gt (blk_lt (g := gb30001) (o := .cells #[.string a2_0, .int .i64 a2_1] 23 (0, 0)) (by (with_reducible repeat (first | refine blk_drewN ?_ _ | refine blk_drew ?_ | refine blk_alloc ?_ _)); exact BK30001.out)) : gb30020 ≠ gb30001))
                clear HO_48
                clear BK30001
                clear HB
                have HO_48 := n0_
                have BK30001 := n1_
                have HB := n2_
                have BK30020 := n3_
                have GW30020 := n4_
                have GE30020 := n5_
                have NB30001_30020 := n6_
                have NB30020_30001 := n7_
                clear n0_ n1_ n2_ n3_ n4_ n5_ n6_ n7_
                clear hb hbox hg
                refine hK.out _ _ trivial (fun hHeld => ?_)
                clear hK K
                refine norm_ (a' := ?_) ?_ ?_
                rotate_left
                ·show Act.put _ (some 36) _ = _
                 simp only [Act.put, List.setIfInBounds_toArray, List.set_cons_zero, List.set_cons_succ, i64_w, i32_w]
                 rfl
                exact norm_ (by first | (simp only [putAll, Act.put, List.setIfInBounds_toArray, List.set_cons_zero, List.set_cons_succ]; done) | (simp only [putAll, Act.put, List.setIfInBounds_toArray, List.set_cons_zero, List.set_cons_succ]; rfl)) (hJ2_9 (gb30020) _ ⟨(by (with_reducible repeat (first | apply Kd.R_alloc | apply Kd.R_drewN | apply Kd.R_drew)); exact HO_48.out), (by (with_reducible repeat (first | refine blk_drewN ?_ _ | refine blk_drew ?_ | refine blk_alloc ?_ _)); exact BK30001.out), (by (with_reducible repeat (first | refine blk_drewN ?_ _ | refine blk_drew ?_ | refine blk_alloc ?_ _)); exact BK30020.out), GW30020.out, GE30020.out, NB30001_30020.out, NB30020_30001.out, (by repeat (first | (with_reducible first | exact HB.out | apply below_alloc | apply pw_below_drewN | apply below_drew1 | refine below_set ?_ GE30001.out | refine below_set ?_ GE30020.out) | exact HB.out))⟩)
             ·skip
              rintro ⟨v30012, gb30020⟩ w128 ⟨h0_, h1_, h2_, h3_, h4_, h5_, h6_, h7_, h8_⟩
              have n0_ : Aside0 (Kd.R (Kd.int .i64) 3 w128 w.heap.size (fun _ => True) v30012 y30011) := ⟨h0_⟩
              have n1_ : Aside0 (Kd.R k23 23 w128 w.heap.size (fun k_ => k_ ≠ gb30001 ∧ k_ ≠ gb30020) (.slice Ao18 y30006.length co18) y30006) := ⟨h1_⟩
              have n2_ : Aside0 (w128.heap[gb30001]? = some (.cells #[.string a2_0, .int .i64 a2_1] 23 (0, 0))) := ⟨h2_⟩
              have n3_ : Aside0 (w128.heap[gb30020]? = some (.cells #[.string (⟨#[]⟩ : ByteArray), .int .i64 0] 23 (0, 0))) := ⟨h3_⟩
              have n4_ : Aside0 (w.heap.size ≤ gb30020) := ⟨h4_⟩
              have n5_ : Aside0 (w.heap.size ≤ gb30020) := ⟨h5_⟩
              have n6_ : Aside0 (gb30001 ≠ gb30020) := ⟨h6_⟩
              have n7_ : Aside0 (gb30020 ≠ gb30001) := ⟨h7_⟩
              have n8_ : Aside0 (Below w.heap.size w w128) := ⟨h8_⟩
              clear HO_48
              clear BK30001
              clear HB
              clear h0_ h1_ h2_ h3_ h4_ h5_ h6_ h7_ h8_
              have HO30013 := n0_
              have HO_48 := n1_
              have BK30001 := n2_
              have BK30020 := n3_
              have GW30020 := n4_
              have GE30020 := n5_
              have NB30001_30020 := n6_
              have NB30020_30001 := n7_
              have HB := n8_
              clear n0_ n1_ n2_ n3_ n4_ n5_ n6_ n7_ n8_
              have hHeld := trivial
              refine norm_ (a' := ?_) ?_ ?_
              rotate_left
              ·simp only [putAll, Act.put, List.setIfInBounds_toArray, List.set_cons_zero, List.set_cons_succ]
               rfl
              refine one_ (i := 2) (N := some 168) #[true, true, true, true, false, false, false, false, false, true, false, false, false] rfl rfl (one_of HT_.out (by kernel_rfl)) (by decide) (fun K hK => ?_)
              refine goes_ Try.func15 (by kernel_rfl) rfl #[.string a0, .int .i64 a1] (by rfl) rfl rfl (by (try simp only [List.map_toArray, List.map_cons, List.map_nil]); first | done | rfl | (simp only [List.length_drop, List.length_take]; rfl)) ?_
              with_reducible refine (columbariumlaw07_Tape.calls a0 a1 t30009 t30010 _ A120.out).mono ?_
              rintro e w129 ⟨rfl, hb⟩
              refine ⟨_, rfl, ?_⟩
              have n0_ := Aside0.mk (Kd.R_below (by (with_reducible repeat (first | apply Kd.R_alloc | apply Kd.R_drewN | apply Kd.R_drew)); exact HO_48.out) hb)
              have n1_ := Aside0.mk (Kd.R_below (by (with_reducible repeat (first | apply Kd.R_alloc | apply Kd.R_drewN | apply Kd.R_drew)); exact HO30013.out) hb)
              have n2_ := Aside0.mk (blk_below (g := gb30001) (o := .cells #[.string a2_0, .int .i64 a2_1] 23 (0, 0)) (by (with_reducible repeat (first | refine blk_drewN ?_ _ | refine blk_drew ?_ | refine blk_alloc ?_ _)); exact BK30001.out) hb)
              have n3_ := Aside0.mk (blk_below (g := gb30020) (o := .cells #[.string (⟨#[]⟩ : ByteArray), .int .i64 0] 23 (0, 0)) (by (with_reducible repeat (first | refine blk_drewN ?_ _ | refine blk_drew ?_ | refine blk_alloc ?_ _)); exact BK30020.out) hb)
              have n4_ := Aside0.mk (below_step (by repeat (first | (with_reducible first | exact HB.out | apply below_alloc | apply pw_below_drewN | apply below_drew1 | refine below_set ?_ GE30001.out | refine below_set ?_ GE30020.out) | exact HB.out)) hb)
              clear HO_48
              clear HO30013
              clear BK30001
              clear BK30020
              clear HB
              have HO_48 := n0_
              have HO30013 := n1_
              have BK30001 := n2_
              have BK30020 := n3_
              have HB := n4_
              clear n0_ n1_ n2_ n3_ n4_
              (try clear hb)
              (try clear hb2)
              (try clear hk)
              (try clear hi)
              refine hK.out _ _ trivial (fun hHeld => ?_)
              clear hK K
              refine norm_ (a' := ?_) ?_ ?_
              rotate_left
              ·show Act.put _ (some 168) _ = _
               simp only [Act.put, List.setIfInBounds_toArray, List.set_cons_zero, List.set_cons_succ, i64_w, i32_w]
               rfl
              exact norm_ (by first | (simp only [putAll, Act.put, List.setIfInBounds_toArray, List.set_cons_zero, List.set_cons_succ]; done) | (simp only [putAll, Act.put, List.setIfInBounds_toArray, List.set_cons_zero, List.set_cons_succ]; rfl)) (hJ2_3_9 (v30012, gb30020) _ ⟨(by (with_reducible repeat (first | apply Kd.R_alloc | apply Kd.R_drewN | apply Kd.R_drew)); exact HO30013.out), (by (with_reducible repeat (first | apply Kd.R_alloc | apply Kd.R_drewN | apply Kd.R_drew)); exact HO_48.out), (by (with_reducible repeat (first | refine blk_drewN ?_ _ | refine blk_drew ?_ | refine blk_alloc ?_ _)); exact BK30001.out), (by (with_reducible repeat (first | refine blk_drewN ?_ _ | refine blk_drew ?_ | refine blk_alloc ?_ _)); exact BK30020.out), GW30020.out, GE30020.out, NB30001_30020.out, NB30020_30001.out, (by repeat (first | (with_reducible first | exact HB.out | apply below_alloc | apply pw_below_drewN | apply below_drew1 | refine below_set ?_ GE30001.out | refine below_set ?_ GE30020.out) | exact HB.out))⟩)
            ·skip
             rintro gb30020 w127 ⟨h0_, h1_, h2_, h3_, h4_, h5_, h6_, h7_⟩
             have n0_ : Aside0 (Kd.R k23 23 w127 w.heap.size (fun k_ => k_ ≠ gb30001 ∧ k_ ≠ gb30020) (.slice Ao18 y30006.length co18) y30006) := ⟨h0_⟩
             have n1_ : Aside0 (w127.heap[gb30001]? = some (.cells #[.string a2_0, .int .i64 a2_1] 23 (0, 0))) := ⟨h1_⟩
             have n2_ : Aside0 (w127.heap[gb30020]? = some (.cells #[.string (⟨#[]⟩ : ByteArray), .int .i64 0] 23 (0, 0))) := ⟨h2_⟩
             have n3_ : Aside0 (w.heap.size ≤ gb30020) := ⟨h3_⟩
             have n4_ : Aside0 (w.heap.size ≤ gb30020) := ⟨h4_⟩
             have n5_ : Aside0 (gb30001 ≠ gb30020) := ⟨h5_⟩
             have n6_ : Aside0 (gb30020 ≠ gb30001) := ⟨h6_⟩
             have n7_ : Aside0 (Below w.heap.size w w127) := ⟨h7_⟩
             clear HO_48
             clear BK30001
             clear HB
             clear h0_ h1_ h2_ h3_ h4_ h5_ h6_ h7_
             have HO_48 := n0_
             have BK30001 := n1_
             have BK30020 := n2_
             have GW30020 := n3_
             have GE30020 := n4_
             have NB30001_30020 := n5_
             have NB30020_30001 := n6_
             have HB := n7_
             clear n0_ n1_ n2_ n3_ n4_ n5_ n6_ n7_
             have hHeld := trivial
             refine norm_ (a' := ?_) ?_ ?_
             rotate_left
             ·simp only [putAll, Act.put, List.setIfInBounds_toArray, List.set_cons_zero, List.set_cons_succ]
              rfl
             refine one_ (i := 3) (N := some 169) #[true, true, true, true, false, false, false, false, false, true, false, false, false] rfl rfl (one_of HT_.out (by kernel_rfl)) (by decide) (fun K hK => ?_)
             refine Kd.R_make_step (Kd.int .i64) _ 3 (by rfl) (N := 169) rfl 24 _ _ rfl 1001 rfl rfl Try.underlying24 (.int .i64 0) 8 info3 rfl (by decide) (by omega) 0 (ok := fun _ => True) (okp := fun _ => True) rfl (fun _ hk => hk) trivial (by omega) (by omega) (Below.refl _ _) (Nat.le_refl _) ?_
             intro v30012 w128 ho129 hb hg_ hnew_
             clear hg_ hnew_
             (first | rw [← Ny30011.out] at ho129 | (simp only [Int.reduceToNat] at ho129; rw [← Ny30011.out] at ho129))
             have n0_ := Aside0.mk (Kd.R_below (by (with_reducible repeat (first | apply Kd.R_alloc | apply Kd.R_drewN | apply Kd.R_drew)); exact HO_48.out) hb)
             have n1_ := Aside0.mk (Kd.R_lower ho129 (below_size (by repeat (first | (with_reducible first | exact HB.out | apply below_alloc | apply pw_below_drewN | apply below_drew1 | refine below_set ?_ GE30001.out | refine below_set ?_ GE30020.out) | exact HB.out))))
             have n2_ := Aside0.mk (blk_below (g := gb30001) (o := .cells #[.string a2_0, .int .i64 a2_1] 23 (0, 0)) (by (with_reducible repeat (first | refine blk_drewN ?_ _ | refine blk_drew ?_ | refine blk_alloc ?_ _)); exact BK30001.out) hb)
             have n3_ := Aside0.mk (blk_below (g := gb30020) (o := .cells #[.string (⟨#[]⟩ : ByteArray), .int .i64 0] 23 (0, 0)) (by (with_reducible repeat (first | refine blk_drewN ?_ _ | refine blk_drew ?_ | refine blk_alloc ?_ _)); exact BK30020.out) hb)
             have n4_ := Aside0.mk (below_step (by repeat (first | (with_reducible first | exact HB.out | apply below_alloc | apply pw_below_drewN | apply below_drew1 | refine below_set ?_ GE30001.out | refine below_set ?_ GE30020.out) | exact HB.out)) hb)
             clear HO_48
             clear BK30001
             clear BK30020
             clear HB
             have HO_48 := n0_
             have HO30013 := n1_
             have BK30001 := n2_
             have BK30020 := n3_
             have HB := n4_
             clear n0_ n1_ n2_ n3_ n4_
             clear hb ho129
             refine hK.out _ _ trivial (fun hHeld => ?_)
             clear hK K
             refine norm_ (a' := ?_) ?_ ?_
             rotate_left
             ·show Act.put _ (some 169) _ = _
              simp only [Act.put, List.setIfInBounds_toArray, List.set_cons_zero, List.set_cons_succ, i64_w, i32_w]
              rfl
             exact norm_ (by first | (simp only [putAll, Act.put, List.setIfInBounds_toArray, List.set_cons_zero, List.set_cons_succ]; done) | (simp only [putAll, Act.put, List.setIfInBounds_toArray, List.set_cons_zero, List.set_cons_succ]; rfl)) (hJ2_3_9 (v30012, gb30020) _ ⟨(by (with_reducible repeat (first | apply Kd.R_alloc | apply Kd.R_drewN | apply Kd.R_drew)); exact HO30013.out), (by (with_reducible repeat (first | apply Kd.R_alloc | apply Kd.R_drewN | apply Kd.R_drew)); exact HO_48.out), (by (with_reducible repeat (first | refine blk_drewN ?_ _ | refine blk_drew ?_ | refine blk_alloc ?_ _)); exact BK30001.out), (by (with_reducible repeat (first | refine blk_drewN ?_ _ | refine blk_drew ?_ | refine blk_alloc ?_ _)); exact BK30020.out), GW30020.out, GE30020.out, NB30001_30020.out, NB30020_30001.out, (by repeat (first | (with_reducible first | exact HB.out | apply below_alloc | apply pw_below_drewN | apply below_drew1 | refine below_set ?_ GE30001.out | refine below_set ?_ GE30020.out) | exact HB.out))⟩)
           ·skip
            rintro v30012 w128 ⟨h0_, h1_, h2_, h3_⟩
            have n0_ : Aside0 (Kd.R (Kd.int .i64) 3 w128 w.heap.size (fun _ => True) v30012 y30011) := ⟨h0_⟩
            have n1_ : Aside0 (Kd.R k23 23 w128 w.heap.size (fun k_ => k_ ≠ gb30001) (.slice Ao18 y30006.length co18) y30006) := ⟨h1_⟩
            have n2_ : Aside0 (w128.heap[gb30001]? = some (.cells #[.string a2_0, .int .i64 a2_1] 23 (0, 0))) := ⟨h2_⟩
            have n3_ : Aside0 (Below w.heap.size w w128) := ⟨h3_⟩
            clear HO_48
            clear BK30001
            clear HB
            clear h0_ h1_ h2_ h3_
            have HO30013 := n0_
            have HO_48 := n1_
            have BK30001 := n2_
            have HB := n3_
            clear n0_ n1_ n2_ n3_
            have hHeld := trivial
            obtain ⟨Ao129, co129, eo129⟩ := Kd.R_slice HO30013.out
            (first | subst eo129 | (injection eo129 with f1_ f2_ f3_; have f4_ := f1_.symm; have f5_ := f3_.symm; clear f1_ f2_ f3_; subst f4_; subst f5_))
            refine norm_ (a' := ?_) ?_ ?_
            rotate_left
            ·simp only [putAll, Act.put, List.setIfInBounds_toArray, List.set_cons_zero, List.set_cons_succ]
             rfl
            refine two_ (i := 4) (j := 9) (Ni := some 170) (Nj := some 36) #[true, true, true, true, true, false, false, false, false, false, false, false, false] #[true, true, true, true, false, false, false, false, false, true, false, false, false] rfl rfl rfl rfl (two_of HT_.out (by kernel_rfl)) (by decide) (by decide) (fun K hK => ?_) (fun K hK => ?_)
            ·skip
             refine goes_ Try.func25 (by kernel_rfl) rfl #[.agg #[.string t30009, .int .i64 t30010], .slice Ao129 y30011.length co129] (by rfl) rfl rfl (by (try simp only [List.map_toArray, List.map_cons, List.map_nil]); first | done | rfl | (simp only [List.length_drop, List.length_take]; rfl)) ?_
             with_reducible refine (tape_Turn.calls t30009 t30010 _ _ y30011 t30014 t30017 t30018 t30019 _ ?side1 ?side2 A122.out).mono ?_
             (case side1 => repeat (first | exact (Kd.R_reads' HO30013.out).2.2 | (with_reducible refine Kd.C_alloc ?_ _) | (with_reducible refine Kd.C_drewN ?_ _) | (with_reducible refine Kd.C_drew ?_)))
             (case side2 => exact (Kd.R_reads' HO30013.out).2.1)
             rintro e w130 ⟨v30015, rfl, ho0, hb⟩
             refine ⟨_, rfl, ?_⟩
             have n0_ := Aside0.mk (Kd.R_below (by (with_reducible repeat (first | apply Kd.R_alloc | apply Kd.R_drewN | apply Kd.R_drew)); exact HO_48.out) hb)
             have n1_ := Aside0.mk (Kd.R_elder' (by (with_reducible repeat (first | apply Kd.R_alloc | apply Kd.R_drewN | apply Kd.R_drew)); exact HO30013.out) (Kd.R_base ho0) hb)
             have n2_ := Aside0.mk (Kd.R_lower (Kd.R_new' ho0 (Kd.R_lt (by (with_reducible repeat (first | apply Kd.R_alloc | apply Kd.R_drewN | apply Kd.R_drew)); exact HO30013.out))) (below_size (by repeat (first | (with_reducible first | exact HB.out | apply below_alloc | apply pw_below_drewN | apply below_drew1 | refine below_set ?_ GE30001.out) | exact HB.out))))
             have n3_ := Aside0.mk (blk_below (g := gb30001) (o := .cells #[.string a2_0, .int .i64 a2_1] 23 (0, 0)) (by (with_reducible repeat (first | refine blk_drewN ?_ _ | refine blk_drew ?_ | refine blk_alloc ?_ _)); exact BK30001.out) hb)
             have n4_ := Aside0.mk (below_step (by repeat (first | (with_reducible first | exact HB.out | apply below_alloc | apply pw_below_drewN | apply below_drew1 | refine below_set ?_ GE30001.out) | exact HB.out)) hb)
             clear HO_48
             clear HO30013
             clear BK30001
             clear HB
             have HO_48 := n0_
             have HO30013 := n1_
             have HO30016 := n2_
             have BK30001 := n3_
             have HB := n4_
             clear n0_ n1_ n2_ n3_ n4_
             (try clear hb)
             (try clear hb2)
             (try clear hk)
             (try clear hi)
             (try clear ho0)
             refine hK.out _ _ trivial (fun hHeld => ?_)
             clear hK K
             refine norm_ (a' := ?_) ?_ ?_
             rotate_left
             ·show Act.put _ (some 170) _ = _
              simp only [Act.put, List.setIfInBounds_toArray, List.set_cons_zero, List.set_cons_succ, i64_w, i32_w]
              rfl
             refine pure_ (i := 5) (N := some 165) (v := ?_) (a' := ?_) #[true, true, true, true, true, true, false, false, false, false, false, false, false] rfl rfl (any_of HT_.out (by kernel_rfl)) (fun _ _ _ h => h) (Or.inl ⟨by rfl, ?_⟩) ?_ ?_
             rotate_left
             ·intro w'
              go_simp
              with_reducible rfl
             rotate_left
             ·simp only [Act.put, List.setIfInBounds_toArray, List.set_cons_zero, List.set_cons_succ, i64_w, i32_w]
              rfl
             refine pure_ (i := 6) (N := some 171) (v := ?_) (a' := ?_) #[true, true, true, true, true, true, true, false, false, false, false, false, false] rfl rfl (any_of HT_.out (by kernel_rfl)) (fun _ _ _ h => h) (Or.inl ⟨by rfl, ?_⟩) ?_ ?_
             rotate_left
             ·intro w'
              go_simp
              with_reducible rfl
             rotate_left
             ·simp only [Act.put, List.setIfInBounds_toArray, List.set_cons_zero, List.set_cons_succ, i64_w, i32_w]
              rfl
             refine pure_ (i := 7) (N := some 172) (v := ?_) (a' := ?_) #[true, true, true, true, true, true, true, true, false, false, false, false, false] rfl rfl (any_of HT_.out (by kernel_rfl)) (fun _ _ _ h => h) (Or.inl ⟨by rfl, ?_⟩) ?_ ?_
             rotate_left
             ·intro w'
              go_simp
              with_reducible rfl
             rotate_left
             ·simp only [Act.put, List.setIfInBounds_toArray, List.set_cons_zero, List.set_cons_succ, i64_w, i32_w]
              rfl
             refine pure_ (i := 8) (N := some 173) (v := ?_) (a' := ?_) #[true, true, true, true, true, true, true, true, true, false, false, false, false] rfl rfl (any_of HT_.out (by kernel_rfl)) (fun _ _ _ h => h) (Or.inl ⟨by rfl, ?_⟩) ?_ ?_
             rotate_left
             ·intro w'
              go_simp
              with_reducible rfl
             rotate_left
             ·simp only [Act.put, List.setIfInBounds_toArray, List.set_cons_zero, List.set_cons_succ, i64_w, i32_w]
              rfl
             exact norm_ (by first | (simp only [putAll, Act.put, List.setIfInBounds_toArray, List.set_cons_zero, List.set_cons_succ]; done) | (simp only [putAll, Act.put, List.setIfInBounds_toArray, List.set_cons_zero, List.set_cons_succ]; rfl)) (hJ2_3_4 (.slice Ao129 y30011.length co129, v30015) _ ⟨(by (with_reducible repeat (first | apply Kd.R_alloc | apply Kd.R_drewN | apply Kd.R_drew)); exact Kd.R_mono HO30013.out (fun _ hk => hk.2)), (by (with_reducible repeat (first | apply Kd.R_alloc | apply Kd.R_drewN | apply Kd.R_drew)); exact Kd.R_mono HO30016.out (fun _ hk => hk.2)), (by (with_reducible repeat (first | apply Kd.R_alloc | apply Kd.R_drewN | apply Kd.R_drew)); exact HO_48.out), (by (with_reducible repeat (first | refine blk_drewN ?_ _ | refine blk_drew ?_ | refine blk_alloc ?_ _)); exact BK30001.out), (by repeat (first | (with_reducible first | exact HB.out | apply below_alloc | apply pw_below_drewN | apply below_drew1 | refine below_set ?_ GE30001.out) | exact HB.out))⟩)
            ·skip
             refine box_step ?hg (N := 36) ?hd (cs := #[.string (⟨#[]⟩ : ByteArray), .int .i64 0]) (t := 23) ?hr ?_; (case hd => rfl); (case hg => rfl); (case hr => first | (go_simp; done) | (go_simp; rfl))
             intro gb30020 hg w129 hbox hb
             have n0_ := Aside0.mk (Kd.R_below (Kd.R_elderB (by (with_reducible repeat (first | apply Kd.R_alloc | apply Kd.R_drewN | apply Kd.R_drew)); exact HO_48.out) gb30020 (Nat.le_of_eq hg.symm)) hb)
             have n1_ := Aside0.mk (Kd.R_below (by (with_reducible repeat (first | apply Kd.R_alloc | apply Kd.R_drewN | apply Kd.R_drew)); exact HO30013.out) hb)
             have n2_ := Aside0.mk (blk_below (g := gb30001) (o := .cells #[.string a2_0, .int .i64 a2_1] 23 (0, 0)) (by (with_reducible repeat (first | refine blk_drewN ?_ _ | refine blk_drew ?_ | refine blk_alloc ?_ _)); exact BK30001.out) hb)
             have n3_ := Aside0.mk (below_step (by repeat (first | (with_reducible first | exact HB.out | apply below_alloc | apply pw_below_drewN | apply below_drew1 | refine below_set ?_ GE30001.out) | exact HB.out)) hb)
             have n4_ := Aside0.mk (hbox)
             have n5_ := Aside0.mk ((by rw [hg]; exact (below_size (by repeat (first | (with_reducible first | exact HB.out | apply below_alloc | apply pw_below_drewN | apply below_drew1 | refine below_set ?_ GE30001.out) | exact HB.out))) : w.heap.size ≤ gb30020))
             have n6_ := Aside0.mk ((by rw [hg]; exact (below_size (by repeat (first | (with_reducible first | exact HB.out | apply below_alloc | apply pw_below_drewN | apply below_drew1 | refine below_set ?_ GE30001.out) | exact HB.out))) : w.heap.size ≤ gb30020))
             have n7_ := Aside0.mk ((by rw [hg]; exact Nat.ne_of_lt (blk_lt (g := gb30001) (o := .cells #[.string a2_0, .int .i64 a2_1] 23 (0, 0)) (by (with_reducible repeat (first | refine blk_drewN ?_ _ | refine blk_drew ?_ | refine blk_alloc ?_ _)); exact BK30001.out)) : gb30001 ≠ gb30020))
             have n8_ := Aside0.mk ((by rw [hg]; exact Nat.ne_of_gt (blk_lt (g := gb30001) (o := .cells #[.string a2_0, .int .i64 a2_1] 23 (0, 0)) (by (with_reducible repeat (first | refine blk_drewN ?_ _ | refine blk_drew ?_ | refine blk_alloc ?_ _)); exact BK30001.out)) : gb30020 ≠ gb30001))
             clear HO_48
             clear HO30013
             clear BK30001
             clear HB
             have HO_48 := n0_
             have HO30013 := n1_
             have BK30001 := n2_
             have HB := n3_
             have BK30020 := n4_
             have GW30020 := n5_
             have GE30020 := n6_
             have NB30001_30020 := n7_
             have NB30020_30001 := n8_
             clear n0_ n1_ n2_ n3_ n4_ n5_ n6_ n7_ n8_
             clear hb hbox hg
             refine hK.out _ _ trivial (fun hHeld => ?_)
             clear hK K
             refine norm_ (a' := ?_) ?_ ?_
             rotate_left
             ·show Act.put _ (some 36) _ = _
              simp only [Act.put, List.setIfInBounds_toArray, List.set_cons_zero, List.set_cons_succ, i64_w, i32_w]
              rfl
             exact norm_ (by first | (simp only [putAll, Act.put, List.setIfInBounds_toArray, List.set_cons_zero, List.set_cons_succ]; done) | (simp only [putAll, Act.put, List.setIfInBounds_toArray, List.set_cons_zero, List.set_cons_succ]; rfl)) (hJ2_3_9 ((.slice Ao129 y30011.length co129), gb30020) _ ⟨(by (with_reducible repeat (first | apply Kd.R_alloc | apply Kd.R_drewN | apply Kd.R_drew)); exact HO30013.out), (by (with_reducible repeat (first | apply Kd.R_alloc | apply Kd.R_drewN | apply Kd.R_drew)); exact HO_48.out), (by (with_reducible repeat (first | refine blk_drewN ?_ _ | refine blk_drew ?_ | refine blk_alloc ?_ _)); exact BK30001.out), (by (with_reducible repeat (first | refine blk_drewN ?_ _ | refine blk_drew ?_ | refine blk_alloc ?_ _)); exact BK30020.out), GW30020.out, GE30020.out, NB30001_30020.out, NB30020_30001.out, (by repeat (first | (with_reducible first | exact HB.out | apply below_alloc | apply pw_below_drewN | apply below_drew1 | refine below_set ?_ GE30001.out | refine below_set ?_ GE30020.out) | exact HB.out))⟩)
          ·skip
           rintro ⟨v30012, gb30020⟩ w129 ⟨h0_, h1_, h2_, h3_, h4_, h5_, h6_, h7_, h8_⟩
           have n0_ : Aside0 (Kd.R (Kd.int .i64) 3 w129 w.heap.size (fun _ => True) v30012 y30011) := ⟨h0_⟩
           have n1_ : Aside0 (Kd.R k23 23 w129 w.heap.size (fun k_ => k_ ≠ gb30001 ∧ k_ ≠ gb30020) (.slice Ao18 y30006.length co18) y30006) := ⟨h1_⟩
           have n2_ : Aside0 (w129.heap[gb30001]? = some (.cells #[.string a2_0, .int .i64 a2_1] 23 (0, 0))) := ⟨h2_⟩
           have n3_ : Aside0 (w129.heap[gb30020]? = some (.cells #[.string (⟨#[]⟩ : ByteArray), .int .i64 0] 23 (0, 0))) := ⟨h3_⟩
           have n4_ : Aside0 (w.heap.size ≤ gb30020) := ⟨h4_⟩
           have n5_ : Aside0 (w.heap.size ≤ gb30020) := ⟨h5_⟩
           have n6_ : Aside0 (gb30001 ≠ gb30020) := ⟨h6_⟩
           have n7_ : Aside0 (gb30020 ≠ gb30001) := ⟨h7_⟩
           have n8_ : Aside0 (Below w.heap.size w w129) := ⟨h8_⟩
           clear HO_48
           clear BK30001
           clear HB
           clear h0_ h1_ h2_ h3_ h4_ h5_ h6_ h7_ h8_
           have HO30013 := n0_
           have HO_48 := n1_
           have BK30001 := n2_
           have BK30020 := n3_
           have GW30020 := n4_
           have GE30020 := n5_
           have NB30001_30020 := n6_
           have NB30020_30001 := n7_
           have HB := n8_
           clear n0_ n1_ n2_ n3_ n4_ n5_ n6_ n7_ n8_
           have hHeld := trivial
           obtain ⟨Ao130, co130, eo130⟩ := Kd.R_slice HO30013.out
           (first | subst eo130 | (injection eo130 with f1_ f2_ f3_; have f4_ := f1_.symm; have f5_ := f3_.symm; clear f1_ f2_ f3_; subst f4_; subst f5_))
           refine norm_ (a' := ?_) ?_ ?_
           rotate_left
           ·simp only [putAll, Act.put, List.setIfInBounds_toArray, List.set_cons_zero, List.set_cons_succ]
            rfl
           refine one_ (i := 4) (N := some 170) #[true, true, true, true, true, false, false, false, false, true, false, false, false] rfl rfl (one_of HT_.out (by kernel_rfl)) (by decide) (fun K hK => ?_)
           refine goes_ Try.func25 (by kernel_rfl) rfl #[.agg #[.string t30009, .int .i64 t30010], .slice Ao130 y30011.length co130] (by rfl) rfl rfl (by (try simp only [List.map_toArray, List.map_cons, List.map_nil]); first | done | rfl | (simp only [List.length_drop, List.length_take]; rfl)) ?_
           with_reducible refine (tape_Turn.calls t30009 t30010 _ _ y30011 t30014 t30017 t30018 t30019 _ ?side1 ?side2 A122.out).mono ?_
           (case side1 => repeat (first | exact (Kd.R_reads' HO30013.out).2.2 | (with_reducible refine Kd.C_alloc ?_ _) | (with_reducible refine Kd.C_drewN ?_ _) | (with_reducible refine Kd.C_drew ?_)))
           (case side2 => exact (Kd.R_reads' HO30013.out).2.1)
           rintro e w131 ⟨v30015, rfl, ho0, hb⟩
           refine ⟨_, rfl, ?_⟩
           have n0_ := Aside0.mk (Kd.R_below (by (with_reducible repeat (first | apply Kd.R_alloc | apply Kd.R_drewN | apply Kd.R_drew)); exact HO_48.out) hb)
           have n1_ := Aside0.mk (Kd.R_elder' (by (with_reducible repeat (first | apply Kd.R_alloc | apply Kd.R_drewN | apply Kd.R_drew)); exact HO30013.out) (Kd.R_base ho0) hb)
           have n2_ := Aside0.mk (Kd.R_lower (Kd.R_new' ho0 (Kd.R_lt (by (with_reducible repeat (first | apply Kd.R_alloc | apply Kd.R_drewN | apply Kd.R_drew)); exact HO30013.out))) (below_size (by repeat (first | (with_reducible first | exact HB.out | apply below_alloc | apply pw_below_drewN | apply below_drew1 | refine below_set ?_ GE30001.out | refine below_set ?_ GE30020.out) | exact HB.out))))
           have n3_ := Aside0.mk (blk_below (g := gb30001) (o := .cells #[.string a2_0, .int .i64 a2_1] 23 (0, 0)) (by (with_reducible repeat (first | refine blk_drewN ?_ _ | refine blk_drew ?_ | refine blk_alloc ?_ _)); exact BK30001.out) hb)
           have n4_ := Aside0.mk (blk_below (g := gb30020) (o := .cells #[.string (⟨#[]⟩ : ByteArray), .int .i64 0] 23 (0, 0)) (by (with_reducible repeat (first | refine blk_drewN ?_ _ | refine blk_drew ?_ | refine blk_alloc ?_ _)); exact BK30020.out) hb)
           have n5_ := Aside0.mk (below_step (by repeat (first | (with_reducible first | exact HB.out | apply below_alloc | apply pw_below_drewN | apply below_drew1 | refine below_set ?_ GE30001.out | refine below_set ?_ GE30020.out) | exact HB.out)) hb)
           clear HO_48
           clear HO30013
           clear BK30001
           clear BK30020
           clear HB
           have HO_48 := n0_
           have HO30013 := n1_
           have HO30016 := n2_
           have BK30001 := n3_
           have BK30020 := n4_
           have HB := n5_
           clear n0_ n1_ n2_ n3_ n4_ n5_
           (try clear hb)
           (try clear hb2)
           (try clear hk)
           (try clear hi)
           (try clear ho0)
           refine hK.out _ _ trivial (fun hHeld => ?_)
           clear hK K
           refine norm_ (a' := ?_) ?_ ?_
           rotate_left
           ·show Act.put _ (some 170) _ = _
            simp only [Act.put, List.setIfInBounds_toArray, List.set_cons_zero, List.set_cons_succ, i64_w, i32_w]
            rfl
           refine pure_ (i := 5) (N := some 165) (v := ?_) (a' := ?_) #[true, true, true, true, true, true, false, false, false, true, false, false, false] rfl rfl (any_of HT_.out (by kernel_rfl)) (fun _ _ _ h => h) (Or.inl ⟨by rfl, ?_⟩) ?_ ?_
           rotate_left
           ·intro w'
            go_simp
            with_reducible rfl
           rotate_left
           ·simp only [Act.put, List.setIfInBounds_toArray, List.set_cons_zero, List.set_cons_succ, i64_w, i32_w]
            rfl
           refine pure_ (i := 6) (N := some 171) (v := ?_) (a' := ?_) #[true, true, true, true, true, true, true, false, false, true, false, false, false] rfl rfl (any_of HT_.out (by kernel_rfl)) (fun _ _ _ h => h) (Or.inl ⟨by rfl, ?_⟩) ?_ ?_
           rotate_left
           ·intro w'
            go_simp
            with_reducible rfl
           rotate_left
           ·simp only [Act.put, List.setIfInBounds_toArray, List.set_cons_zero, List.set_cons_succ, i64_w, i32_w]
            rfl
           refine pure_ (i := 7) (N := some 172) (v := ?_) (a' := ?_) #[true, true, true, true, true, true, true, true, false, true, false, false, false] rfl rfl (any_of HT_.out (by kernel_rfl)) (fun _ _ _ h => h) (Or.inl ⟨by rfl, ?_⟩) ?_ ?_
           rotate_left
           ·intro w'
            go_simp
            with_reducible rfl
           rotate_left
           ·simp only [Act.put, List.setIfInBounds_toArray, List.set_cons_zero, List.set_cons_succ, i64_w, i32_w]
            rfl
           refine pure_ (i := 8) (N := some 173) (v := ?_) (a' := ?_) #[true, true, true, true, true, true, true, true, true, true, false, false, false] rfl rfl (any_of HT_.out (by kernel_rfl)) (fun _ _ _ h => h) (Or.inl ⟨by rfl, ?_⟩) ?_ ?_
           rotate_left
           ·intro w'
            go_simp
            with_reducible rfl
           rotate_left
           ·simp only [Act.put, List.setIfInBounds_toArray, List.set_cons_zero, List.set_cons_succ, i64_w, i32_w]
            rfl
           exact norm_ (by first | (simp only [putAll, Act.put, List.setIfInBounds_toArray, List.set_cons_zero, List.set_cons_succ]; done) | (simp only [putAll, Act.put, List.setIfInBounds_toArray, List.set_cons_zero, List.set_cons_succ]; rfl)) (hJ2_3_4_9 (.slice Ao130 y30011.length co130, v30015, gb30020) _ ⟨(by (with_reducible repeat (first | apply Kd.R_alloc | apply Kd.R_drewN | apply Kd.R_drew)); exact Kd.R_mono HO30013.out (fun _ hk => hk.2)), (by (with_reducible repeat (first | apply Kd.R_alloc | apply Kd.R_drewN | apply Kd.R_drew)); exact Kd.R_mono HO30016.out (fun _ hk => hk.2)), (by (with_reducible repeat (first | apply Kd.R_alloc | apply Kd.R_drewN | apply Kd.R_drew)); exact HO_48.out), (by (with_reducible repeat (first | refine blk_drewN ?_ _ | refine blk_drew ?_ | refine blk_alloc ?_ _)); exact BK30001.out), (by (with_reducible repeat (first | refine blk_drewN ?_ _ | refine blk_drew ?_ | refine blk_alloc ?_ _)); exact BK30020.out), GW30020.out, GE30020.out, NB30001_30020.out, NB30020_30001.out, (by repeat (first | (with_reducible first | exact HB.out | apply below_alloc | apply pw_below_drewN | apply below_drew1 | refine below_set ?_ GE30001.out | refine below_set ?_ GE30020.out) | exact HB.out))⟩)
         ·skip
          rintro ⟨v30012, v30015⟩ w130 ⟨h0_, h1_, h2_, h3_, h4_⟩
          have n0_ : Aside0 (Kd.R (Kd.int .i64) 3 w130 w.heap.size (fun k_ => some k_ ≠ (v30015 : Value).ownBlock) v30012 y30011) := ⟨h0_⟩
          have n1_ : Aside0 (Kd.R (Kd.int .i64) 3 w130 w.heap.size (fun k_ => some k_ ≠ (v30012 : Value).ownBlock) v30015 t30014) := ⟨h1_⟩
          have n2_ : Aside0 (Kd.R k23 23 w130 w.heap.size (fun k_ => k_ ≠ gb30001) (.slice Ao18 y30006.length co18) y30006) := ⟨h2_⟩
          have n3_ : Aside0 (w130.heap[gb30001]? = some (.cells #[.string a2_0, .int .i64 a2_1] 23 (0, 0))) := ⟨h3_⟩
          have n4_ : Aside0 (Below w.heap.size w w130) := ⟨h4_⟩
          clear HO_48
          clear BK30001
          clear HB
          clear h0_ h1_ h2_ h3_ h4_
          have HO30013 := n0_
          have HO30016 := n1_
          have HO_48 := n2_
          have BK30001 := n3_
          have HB := n4_
          clear n0_ n1_ n2_ n3_ n4_
          have hHeld := trivial
          refine norm_ (a' := ?_) ?_ ?_
          rotate_left
          ·simp only [putAll, Act.put, List.setIfInBounds_toArray, List.set_cons_zero, List.set_cons_succ]
           rfl
          refine one_ (i := 9) (N := some 36) #[true, true, true, true, true, true, true, true, true, true, false, false, false] rfl rfl (one_of HT_.out (by kernel_rfl)) (by decide) (fun K hK => ?_)
          refine box_step ?hg (N := 36) ?hd (cs := #[.string (⟨#[]⟩ : ByteArray), .int .i64 0]) (t := 23) ?hr ?_; (case hd => rfl); (case hg => rfl); (case hr => first | (go_simp; done) | (go_simp; rfl))
          intro gb30020 hg w131 hbox hb
          have n0_ := Aside0.mk (Kd.R_below (Kd.R_elderB (by (with_reducible repeat (first | apply Kd.R_alloc | apply Kd.R_drewN | apply Kd.R_drew)); exact HO_48.out) gb30020 (Nat.le_of_eq hg.symm)) hb)
          have n1_ := Aside0.mk (Kd.R_below (by (with_reducible repeat (first | apply Kd.R_alloc | apply Kd.R_drewN | apply Kd.R_drew)); exact HO30013.out) hb)
          have n2_ := Aside0.mk (Kd.R_below (by (with_reducible repeat (first | apply Kd.R_alloc | apply Kd.R_drewN | apply Kd.R_drew)); exact HO30016.out) hb)
          have n3_ := Aside0.mk (blk_below (g := gb30001) (o := .cells #[.string a2_0, .int .i64 a2_1] 23 (0, 0)) (by (with_reducible repeat (first | refine blk_drewN ?_ _ | refine blk_drew ?_ | refine blk_alloc ?_ _)); exact BK30001.out) hb)
          have n4_ := Aside0.mk (below_step (by repeat (first | (with_reducible first | exact HB.out | apply below_alloc | apply pw_below_drewN | apply below_drew1 | refine below_set ?_ GE30001.out) | exact HB.out)) hb)
          have n5_ := Aside0.mk (hbox)
          have n6_ := Aside0.mk ((by rw [hg]; exact (below_size (by repeat (first | (with_reducible first | exact HB.out | apply below_alloc | apply pw_below_drewN | apply below_drew1 | refine below_set ?_ GE30001.out) | exact HB.out))) : w.heap.size ≤ gb30020))
          have n7_ := Aside0.mk ((by rw [hg]; exact (below_size (by repeat (first | (with_reducible first | exact HB.out | apply below_alloc | apply pw_below_drewN | apply below_drew1 | refine below_set ?_ GE30001.out) | exact HB.out))) : w.heap.size ≤ gb30020))
          have n8_ := Aside0.mk ((by rw [hg]; exact Nat.ne_of_lt (blk_lt (g := gb30001) (o := .cells #[.string a2_0, .int .i64 a2_1] 23 (0, 0)) (by (with_reducible repeat (first | refine blk_drewN ?_ _ | refine blk_drew ?_ | refine blk_alloc ?_ _)); exact BK30001.out)) : gb30001 ≠ gb30020))
          have n9_ := Aside0.mk ((by rw [hg]; exact Nat.ne_of_gt (blk_lt (g := gb30001) (o := .cells #[.string a2_0, .int .i64 a2_1] 23 (0, 0)) (by (with_reducible repeat (first | refine blk_drewN ?_ _ | refine blk_drew ?_ | refine blk_alloc ?_ _)); exact BK30001.out)) : gb30020 ≠ gb30001))
          clear HO_48
          clear HO30013
          clear HO30016
          clear BK30001
          clear HB
          have HO_48 := n0_
          have HO30013 := n1_
          have HO30016 := n2_
          have BK30001 := n3_
          have HB := n4_
          have BK30020 := n5_
          have GW30020 := n6_
          have GE30020 := n7_
          have NB30001_30020 := n8_
          have NB30020_30001 := n9_
          clear n0_ n1_ n2_ n3_ n4_ n5_ n6_ n7_ n8_ n9_
          clear hb hbox hg
          refine hK.out _ _ trivial (fun hHeld => ?_)
          clear hK K
          refine norm_ (a' := ?_) ?_ ?_
          rotate_left
          ·show Act.put _ (some 36) _ = _
           simp only [Act.put, List.setIfInBounds_toArray, List.set_cons_zero, List.set_cons_succ, i64_w, i32_w]
           rfl
          exact norm_ (by first | (simp only [putAll, Act.put, List.setIfInBounds_toArray, List.set_cons_zero, List.set_cons_succ]; done) | (simp only [putAll, Act.put, List.setIfInBounds_toArray, List.set_cons_zero, List.set_cons_succ]; rfl)) (hJ2_3_4_9 (v30012, v30015, gb30020) _ ⟨(by (with_reducible repeat (first | apply Kd.R_alloc | apply Kd.R_drewN | apply Kd.R_drew)); exact HO30013.out), (by (with_reducible repeat (first | apply Kd.R_alloc | apply Kd.R_drewN | apply Kd.R_drew)); exact HO30016.out), (by (with_reducible repeat (first | apply Kd.R_alloc | apply Kd.R_drewN | apply Kd.R_drew)); exact HO_48.out), (by (with_reducible repeat (first | refine blk_drewN ?_ _ | refine blk_drew ?_ | refine blk_alloc ?_ _)); exact BK30001.out), (by (with_reducible repeat (first | refine blk_drewN ?_ _ | refine blk_drew ?_ | refine blk_alloc ?_ _)); exact BK30020.out), GW30020.out, GE30020.out, NB30001_30020.out, NB30020_30001.out, (by repeat (first | (with_reducible first | exact HB.out | apply below_alloc | apply pw_below_drewN | apply below_drew1 | refine below_set ?_ GE30001.out | refine below_set ?_ GE30020.out) | exact HB.out))⟩)
        rintro ⟨v30012, v30015, gb30020⟩ w131 ⟨h0_, h1_, h2_, h3_, h4_, h5_, h6_, h7_, h8_, h9_⟩
        have n0_ : Aside0 (Kd.R (Kd.int .i64) 3 w131 w.heap.size (fun k_ => some k_ ≠ (v30015 : Value).ownBlock) v30012 y30011) := ⟨h0_⟩
        have n1_ : Aside0 (Kd.R (Kd.int .i64) 3 w131 w.heap.size (fun k_ => some k_ ≠ (v30012 : Value).ownBlock) v30015 t30014) := ⟨h1_⟩
        have n2_ : Aside0 (Kd.R k23 23 w131 w.heap.size (fun k_ => k_ ≠ gb30001 ∧ k_ ≠ gb30020) (.slice Ao18 y30006.length co18) y30006) := ⟨h2_⟩
        have n3_ : Aside0 (w131.heap[gb30001]? = some (.cells #[.string a2_0, .int .i64 a2_1] 23 (0, 0))) := ⟨h3_⟩
        have n4_ : Aside0 (w131.heap[gb30020]? = some (.cells #[.string (⟨#[]⟩ : ByteArray), .int .i64 0] 23 (0, 0))) := ⟨h4_⟩
        have n5_ : Aside0 (w.heap.size ≤ gb30020) := ⟨h5_⟩
        have n6_ : Aside0 (w.heap.size ≤ gb30020) := ⟨h6_⟩
        have n7_ : Aside0 (gb30001 ≠ gb30020) := ⟨h7_⟩
        have n8_ : Aside0 (gb30020 ≠ gb30001) := ⟨h8_⟩
        have n9_ : Aside0 (Below w.heap.size w w131) := ⟨h9_⟩
        clear HO_48
        clear BK30001
        clear HB
        clear h0_ h1_ h2_ h3_ h4_ h5_ h6_ h7_ h8_ h9_
        have HO30013 := n0_
        have HO30016 := n1_
        have HO_48 := n2_
        have BK30001 := n3_
        have BK30020 := n4_
        have GW30020 := n5_
        have GE30020 := n6_
        have NB30001_30020 := n7_
        have NB30020_30001 := n8_
        have HB := n9_
        clear n0_ n1_ n2_ n3_ n4_ n5_ n6_ n7_ n8_ n9_
        have hHeld := trivial
        refine norm_ (a' := ?_) ?_ ?_
        rotate_left
        ·simp only [putAll, Act.put, List.setIfInBounds_toArray, List.set_cons_zero, List.set_cons_succ]
         rfl
        refine pure_ (i := 10) (N := some 35) (v := ?_) (a' := ?_) #[true, true, true, true, true, true, true, true, true, true, true, false, false] rfl rfl (any_of HT_.out (by kernel_rfl)) (fun _ _ _ h => h) (Or.inl ⟨by rfl, ?_⟩) ?_ ?_
        rotate_left
        ·intro w'
         go_simp
         with_reducible rfl
        rotate_left
        ·simp only [Act.put, List.setIfInBounds_toArray, List.set_cons_zero, List.set_cons_succ, i64_w, i32_w]
         rfl
        refine one_ (i := 11) (N := none) #[true, true, true, true, true, true, true, true, true, true, true, true, false] rfl rfl (one_of HT_.out (by kernel_rfl)) (by decide) (fun K hK => ?_)
        have hs132 : w131.cell? ⟨gb30020, 0, none⟩ = some (.string (⟨#[]⟩ : ByteArray)) := (blk_cell BK30020.out 0).trans rfl
        have hfs132 := blk_frozen BK30020.out 0
        have hns132_0 := NB30001_30020.out
        have hms132_0 := NB30020_30001.out
        have hs133 : w131.cell? ⟨gb30020, 1, none⟩ = some (.int .i64 0) := (blk_cell BK30020.out 1).trans rfl
        have hfs133 := blk_frozen BK30020.out 1
        have hns133_0 := NB30001_30020.out
        have hms133_0 := NB30020_30001.out
        refine skip_ (w1 := ?_) (by rfl) rfl ?_ ?_
        rotate_left
        ·go_simp
         rfl
        refine hK.out _ _ trivial (fun hHeld => ?_)
        clear hK K
        refine pure_ (i := 12) (N := some 37) (v := ?_) (a' := ?_) #[true, true, true, true, true, true, true, true, true, true, true, true, true] rfl rfl (any_of HT_.out (by kernel_rfl)) (fun _ _ _ h => h) (Or.inl ⟨by rfl, ?_⟩) ?_ ?_
        rotate_left
        ·intro w'
         go_simp
         with_reducible rfl
        rotate_left
        ·simp only [Act.put, List.setIfInBounds_toArray, List.set_cons_zero, List.set_cons_succ, i64_w, i32_w]
         rfl
        refine done_ (done_of HT_.out (by kernel_rfl)) ?_
        try go_wp2
        go_ret
        exact ⟨by first | rfl | (simp [errW_none, errW_some] <;> rfl) | (simp only [← hji7]; first | rfl | (simp [errW_none, errW_some] <;> rfl)) | (simp [*, errW_none, errW_some] <;> rfl), by repeat (first | (with_reducible first | exact HB.out | apply below_alloc | apply pw_below_drewN | apply below_drew1 | refine below_set ?_ GE30001.out | refine below_set ?_ GE30020.out) | exact HB.out)⟩
       ·replace c123 := Bool.eq_false_iff.mpr c123
        subst c123
        have H1 : (none) = some r := by rw [if_neg (show ¬ (false = true) by decide)] at H; exact H
        clear H
        have H := H1
        clear H1
        exact absurd H (by simp)
      ·rw [if_neg c121] at H
       exact absurd H (by simp)
  ·rw [if_neg c9] at H
   exact absurd H (by simp)
 ·rw [if_neg c8] at H
  exact absurd H (by simp)

end Go.Proofs.Ytmkncddbecmlpaa.Pr
