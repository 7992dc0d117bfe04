-- Written by wip/tools/xprint.py, a patched run of the kit's print: not typed by hand.
import Derived.Test.YtcfinlmocgbnbaaXSq
import Derived.Test.YtcfinlmocgbnbaaPr0
import Derived.Test.YtcfinlmocgbnbaaMref
import Derived.Test.YtcfinlmocgbnbaaPrFcolumbariumref14Right
import Derived.Test.YtcfinlmocgbnbaaPrFcolumbariumref14fallen
namespace Go.Proofs.Ytcfinlmocgbnbaa.Pr
open Go.Proofs.Ytcfinlmocgbnbaa.Sq Go.RowKit Go.Proofs.YtcfinlmocgbnbaaW.PrintWords Go.Proofs.YtcfinlmocgbnbaaW.PrintLast Go.Proofs.YtcfinlmocgbnbaaW.PrintMore
attribute [local go_sem] max2_int min2_int max_two min_two max_three min_three max_four min_four   -- for this text's walks alone
set_option linter.unusedVariables false
set_option linter.unusedSimpArgs false

/-! ### columbariumref14_Do: function 17 -/
mutual
def columbariumref14_Do.l0 : Nat → List (S24) → Int → List ByteArray → List (S24) → Option (List ByteArray × (List (S24)) × Int)
 | 0, _, _, _, _ => none
 | k + 1, x1, x6, xz2000, xz2001 => if x6 < (x1.length : Int) then (if 0 ≤ x6 then ((columbariumref14_may.f ((rd_T24 x1 x6).f0) ((rd_T24 x1 x6).f1) ((rd_T24 x1 x6).f2) (xz2000.length : Int)).bind fun tz11 => (if tz11 = true then (columbariumref14_Do.l0 k x1 (wrap64 (x6 + 1)) xz2000 xz2001) else ((columbariumref14_Own.f xz2000 xz2001).bind fun btz12 => (some (btz12.1, btz12.2, 1))))) else (none)) else ((columbariumref14_Own.f xz2000 xz2001).bind fun btz18 => (columbariumref14_Do.l1 k x1 0 xz2000 xz2001 btz18.1 btz18.2))
def columbariumref14_Do.l1 : Nat → List (S24) → Int → List ByteArray → List (S24) → List ByteArray → List (S24) → Option (List ByteArray × (List (S24)) × Int)
 | 0, _, _, _, _, _, _ => none
 | k + 1, x1, x8, xz2000, xz2001, xz25000, xz25001 => if x8 < (x1.length : Int) then (if 0 ≤ x8 then (if (rd_T24 x1 x8).f0 = true then ((columbariumref14_whole.f k (xz25001.length : Int)).bind fun tz26 => ((columbariumref14_fallen.f k xz25000 xz25001 tz26).bind fun btz29 => (columbariumref14_Do.l1 k x1 (wrap64 (x8 + 1)) xz2000 xz2001 btz29.1 btz29.2))) else (if (xz25001.length : Int) ≥ 3000 then ((columbariumref14_Own.f xz2000 xz2001).bind fun btz35 => (some (btz35.1, btz35.2, 2))) else (if xz25001.length < 4398046511104 then (columbariumref14_Do.l1 k x1 (wrap64 (x8 + 1)) xz2000 xz2001 xz25000 (xz25001 ++ [(⟨(rd_T24 x1 x8).f0, (rd_T24 x1 x8).f1, (rd_T24 x1 x8).f2⟩ : S24)])) else (none)))) else (none)) else (some (xz25000, xz25001, 0))
end
def columbariumref14_Do.f (k : Nat) (l0_0 : List ByteArray) (l0_1 : List (S24)) (l1 : List (S24)) : Option (List ByteArray × (List (S24)) × Int) := (columbariumref14_Right.f k l0_0 l0_1).bind fun tz3 => (if tz3 = true then (columbariumref14_Do.l0 k l1 0 l0_0 l0_1) else ((columbariumref14_Own.f l0_0 l0_1).bind fun btz4 => (some (btz4.1, btz4.2, 1))))
theorem columbariumref14_Do.mono_l : ∀ k, (∀ y0 y1 y2 y3, LeO (columbariumref14_Do.l0 k y0 y1 y2 y3) (columbariumref14_Do.l0 (k + 1) y0 y1 y2 y3)) ∧ (∀ y0 y1 y2 y3 y4 y5, LeO (columbariumref14_Do.l1 k y0 y1 y2 y3 y4 y5) (columbariumref14_Do.l1 (k + 1) y0 y1 y2 y3 y4 y5))
 | 0 => ⟨fun _ _ _ _ r h => by simp [columbariumref14_Do.l0] at h, fun _ _ _ _ _ _ r h => by simp [columbariumref14_Do.l1] at h⟩
 | k + 1 => by
  obtain ⟨ih0, ih1⟩ := columbariumref14_Do.mono_l k
  refine ⟨?_, ?_⟩
  ·intro y0 y1 y2 y3
   unfold columbariumref14_Do.l0
   repeat' first
   | (with_reducible exact ih0 _ _ _ _)
   | (with_reducible exact ih1 _ _ _ _ _ _)
   | (with_reducible exact columbariumref14_Right.mono _ _ _)
   | (with_reducible exact columbariumref14_fallen.mono _ _ _ _)
   | (with_reducible exact columbariumref14_whole.mono _ _)
   | (with_reducible exact LeO.refl _)
   | (with_reducible exact LeO.none _)
   | (with_reducible refine LeO.ite ?_ ?_)
   | (with_reducible refine LeO.bind ?_ (fun _ => ?_))
   | exact ih0 _ _ _ _
   | exact ih1 _ _ _ _ _ _
   | exact columbariumref14_Right.mono _ _ _
   | exact columbariumref14_fallen.mono _ _ _ _
   | exact columbariumref14_whole.mono _ _
   | exact LeO.none _
   | refine LeO.ite ?_ ?_
   | refine LeO.bind ?_ (fun _ => ?_)
  ·intro y0 y1 y2 y3 y4 y5
   unfold columbariumref14_Do.l1
   repeat' first
   | (with_reducible exact ih0 _ _ _ _)
   | (with_reducible exact ih1 _ _ _ _ _ _)
   | (with_reducible exact columbariumref14_Right.mono _ _ _)
   | (with_reducible exact columbariumref14_fallen.mono _ _ _ _)
   | (with_reducible exact columbariumref14_whole.mono _ _)
   | (with_reducible exact LeO.refl _)
   | (with_reducible exact LeO.none _)
   | (with_reducible refine LeO.ite ?_ ?_)
   | (with_reducible refine LeO.bind ?_ (fun _ => ?_))
   | exact ih0 _ _ _ _
   | exact ih1 _ _ _ _ _ _
   | exact columbariumref14_Right.mono _ _ _
   | exact columbariumref14_fallen.mono _ _ _ _
   | exact columbariumref14_whole.mono _ _
   | exact LeO.none _
   | refine LeO.ite ?_ ?_
   | refine LeO.bind ?_ (fun _ => ?_)
theorem columbariumref14_Do.mono : ∀ a0 a1 a2 k, LeO (columbariumref14_Do.f k a0 a1 a2) (columbariumref14_Do.f (k + 1) a0 a1 a2) := by
 intro a0 a1 a2 k
 obtain ⟨ih0, ih1⟩ := columbariumref14_Do.mono_l k
 unfold columbariumref14_Do.f
 repeat' first
  | (with_reducible exact ih0 _ _ _ _)
  | (with_reducible exact ih1 _ _ _ _ _ _)
  | (with_reducible exact columbariumref14_Right.mono _ _ _)
  | (with_reducible exact columbariumref14_fallen.mono _ _ _ _)
  | (with_reducible exact columbariumref14_whole.mono _ _)
  | (with_reducible exact LeO.refl _)
  | (with_reducible exact LeO.none _)
  | (with_reducible refine LeO.ite ?_ ?_)
  | (with_reducible refine LeO.bind ?_ (fun _ => ?_))
  | exact ih0 _ _ _ _
  | exact ih1 _ _ _ _ _ _
  | exact columbariumref14_Right.mono _ _ _
  | exact columbariumref14_fallen.mono _ _ _ _
  | exact columbariumref14_whole.mono _ _
  | exact LeO.none _
  | refine LeO.ite ?_ ?_
  | refine LeO.bind ?_ (fun _ => ?_)
def columbariumref14_Do.T6 : Bool × List (List Nat × List Nat) := (true, [([], []), ([], []), ([0, 1], [0, 1]), ([2], [2]), ([], []), ([4], [4]), ([5], [5]), ([3, 6], [3, 6]), ([7], [7])])
def columbariumref14_Do.B6 : List Nat := [0, 0, 3, 7, 0, 16, 48, 127, 255]
theorem columbariumref14_Do.tab6 : rtab .any (opsOf Try.f17 6) = columbariumref14_Do.T6 := by kernel_rfl
theorem columbariumref14_Do.bits6 : waitsOk columbariumref14_Do.T6.2 columbariumref14_Do.B6 = true := by kernel_rfl
def columbariumref14_Do.T16 : Bool × List (List Nat × List Nat) := (true, [([], []), ([0], [0]), ([], []), ([], []), ([2, 3], [2, 3]), ([4], [4]), ([5], [5]), ([1, 6], [1, 6]), ([0, 1, 2, 3, 4, 5, 6, 7], []), ([8, 7, 7, 0, 1, 2, 3, 4, 5, 6, 7], [7, 8])])
def columbariumref14_Do.B16 : List Nat := [0, 1, 0, 0, 12, 28, 60, 127, 255, 511]
theorem columbariumref14_Do.tab16 : rtab .any (opsOf Try.f17 16) = columbariumref14_Do.T16 := by kernel_rfl
theorem columbariumref14_Do.bits16 : waitsOk columbariumref14_Do.T16.2 columbariumref14_Do.B16 = true := by kernel_rfl
set_option maxHeartbeats 8000000 in
set_option maxRecDepth 100000 in
theorem columbariumref14_Do.calls (k : Nat) (A0_0 : Option Addr) (c0_0 : Nat) (l0_0 : List ByteArray) (A0_1 : Option Addr) (c0_1 : Nat) (l0_1 : List (S24)) (A1 : Option Addr) (c1 : Nat) (l1 : List (S24)) (r1 : List ByteArray) (r2 : List (S24)) (r3 : Int) (w : World) (hr0_0 : Kd.C Kd.string w A0_0 l0_0.length l0_0) (hc0_0 : l0_0.length ≤ c0_0) (hr0_1 : Kd.C k24 w A0_1 l0_1.length l0_1) (hc0_1 : l0_1.length ≤ c0_1) (hr1 : Kd.C k24 w A1 l1.length l1) (hc1 : l1.length ≤ c1) (h : columbariumref14_Do.f k l0_0 l0_1 l1 = some (r1, r2, r3)) :
  Calls Try.prog 17 #[.agg #[.slice A0_0 l0_0.length c0_0, .slice A0_1 l0_1.length c0_1], .slice A1 l1.length c1] w fun e w' => ∃ v0_ v1_ : Value, e = .returned (.tuple #[.agg #[v0_, v1_], .int .i64 r3]) ∧ Kd.R Kd.string 9 w' w.heap.size (fun _ => True) v0_ r1 ∧ Kd.R k24 24 w' w.heap.size (fun _ => True) v1_ r2 ∧ Below w.heap.size w w' := by
 have hu30 := Try.underlying30
 have hu24 := Try.underlying24
 have HR0_0 := am hr0_0
 have HC0_0 := am hc0_0
 clear hr0_0 hc0_0
 have HR0_1 := am hr0_1
 have HC0_1 := am hc0_1
 clear hr0_1 hc0_1
 have HR1 := am hr1
 have HC1 := am hc1
 clear hr1 hc1
 have HB := am (Below.refl w.heap.size w)
 have H : ((columbariumref14_Right.f k l0_0 l0_1).bind fun tz3 => (if tz3 = true then (columbariumref14_Do.l0 k l1 0 l0_0 l0_1) else ((columbariumref14_Own.f l0_0 l0_1).bind fun btz4 => (some (btz4.1, btz4.2, 1))))) = some (r1, r2, r3) := h
 clear h
 replace H := ob_ H
 obtain ⟨tz3, A30, H⟩ := H
 replace H : (if tz3 = true then (columbariumref14_Do.l0 k l1 0 l0_0 l0_1) else ((columbariumref14_Own.f l0_0 l0_1).bind fun btz4 => (some (btz4.1, btz4.2, 1)))) = some (r1, r2, r3) := H
 have A3 := Aside0.mk A30
 clear A30
 by_cases c4 : tz3 = true
 rotate_left
 ·replace c4 := Bool.eq_false_iff.mpr c4
  subst c4
  have H1 : ((columbariumref14_Own.f l0_0 l0_1).bind fun btz4 => (some (btz4.1, btz4.2, 1))) = some (r1, r2, r3) := by rw [if_neg (show ¬ (false = true) by decide)] at H; exact H
  clear H
  have H := H1
  clear H1
  replace H := ob_ H
  obtain ⟨⟨tz4, tz7⟩, A790, H⟩ := H
  replace H : (some (tz4, tz7, 1)) = some (r1, r2, r3) := H
  have A79 := Aside0.mk A790
  clear A790
  simp only [Option.some.injEq, Prod.mk.injEq] at H
  obtain ⟨rfl, rfl, rfl⟩ := H
  go_enter Try.func17, Try.ntmps17
  go_wp2_with (first | ((with_reducible refine gate_dst (N := 2) rfl ?_); refine box_event ?hg (N := 2) ?hd (cs := #[.slice A0_0 l0_0.length c0_0, .slice A0_1 l0_1.length c0_1]) (t := 30) ?hr ?_; (case hd => rfl); (case hg => rfl); (case hr => first | (go_simp; done) | (go_simp; rfl)); intro gbz1 hg w80 hbox hb; have n0_ := am (below_step (pb HB) hb); have n1_ := am (hbox); have n2_ := ge_ hg (pb HB); have n3_ := ge_ hg (pb HB); clear HB; have HB := n0_; have BKz1 := n1_; have GWz1 := n2_; have GEz1 := n3_; clear n0_ n1_ n2_ n3_; clear hb hbox hg) | ((with_reducible refine gate_dst (N := 4) rfl ?_); refine box_event ?hg (N := 4) ?hd (cs := #[.slice none 0 0, .slice none 0 0]) (t := 30) ?hr ?_; (case hd => rfl); (case hg => rfl); (case hr => first | (go_simp; done) | (go_simp; rfl)); intro gbz2 hg w81 hbox hb; have n0_ := am (blk_below (pk BKz1) hb); have n1_ := am (below_step (by repeat first | (with_reducible first | exact HB.out | apply ba | apply bn | apply bd | refine bs (by assumption) ?_) | exact HB.out) hb); have n2_ := am (hbox); have n3_ := ge_ hg (by repeat first | (with_reducible first | exact HB.out | apply ba | apply bn | apply bd | refine bs (by assumption) ?_) | exact HB.out); have n4_ := ge_ hg (by repeat first | (with_reducible first | exact HB.out | apply ba | apply bn | apply bd | refine bs (by assumption) ?_) | exact HB.out); have n5_ := nl_ hg BKz1; have n6_ := ng_ hg BKz1; clear BKz1; clear HB; have BKz1 := n0_; have HB := n1_; have BKz2 := n2_; have GWz2 := n3_; have GEz2 := n4_; have NBz1_z2 := n5_; have NBz2_z1 := n6_; clear n0_ n1_ n2_ n3_ n4_ n5_ n6_; clear hb hbox hg; have hnb82 := NBz1_z2.out; have hnc82 := NBz2_z1.out; obtain ⟨hcz83_0, hcz83_1⟩ := bc2 BKz1; obtain ⟨hfz83_0, hfz83_1⟩ := bf2 BKz1) | ((with_reducible refine gate_callee (f := 21) rfl ?_); refine goesL_ (some 10) rfl rfl Try.func21 (by kernel_rfl) rfl #[.agg #[.slice A0_0 l0_0.length c0_0, .slice A0_1 l0_1.length c0_1]] rfl (by (try simp only [List.map_toArray, List.map_cons, List.map_nil]) <;> rfl) ?_; (with_reducible refine (columbariumref14_Right.calls k _ _ l0_0 _ _ l0_1 false _ ?side1 ?side2 ?side3 ?side4 A3.out).mono ?_); (case side1 => repeat (first | exact (Kd.C_below HR0_0.out HB.out) | (with_reducible refine Kd.C_alloc ?_ _) | (with_reducible refine Kd.C_drewN ?_ _) | (with_reducible refine Kd.C_drew ?_))); (case side2 => exact HC0_0.out); (case side3 => repeat (first | exact (Kd.C_below HR0_1.out HB.out) | (with_reducible refine Kd.C_alloc ?_ _) | (with_reducible refine Kd.C_drewN ?_ _) | (with_reducible refine Kd.C_drew ?_))); (case side4 => exact HC0_1.out); rintro e w84 ⟨rfl, hb⟩; refine ⟨_, rfl, ?_⟩; have n0_ := am (blk_below (pk BKz1) hb); have n1_ := am (blk_below (pk BKz2) hb); have n2_ := am (below_step (by repeat first | (with_reducible first | exact HB.out | apply ba | apply bn | apply bd | refine bs (by assumption) ?_) | exact HB.out) hb); clear BKz1; clear BKz2; clear HB; have BKz1 := n0_; have BKz2 := n1_; have HB := n2_; clear n0_ n1_ n2_; obtain ⟨hcz85_0, hcz85_1⟩ := bc2 BKz1; obtain ⟨hfz85_0, hfz85_1⟩ := bf2 BKz1) | ((with_reducible refine gate_callee (f := 19) rfl ?_); refine goesL_ (some 13) rfl rfl Try.func19 (by kernel_rfl) rfl #[.agg #[.slice A0_0 l0_0.length c0_0, .slice A0_1 l0_1.length c0_1]] rfl (by (try simp only [List.map_toArray, List.map_cons, List.map_nil]) <;> rfl) ?_; (with_reducible refine (columbariumref14_Own.calls _ _ l0_0 _ _ l0_1 tz4 tz7 _ ?side1 ?side2 ?side3 ?side4 A79.out).mono ?_); (case side1 => repeat (first | exact (Kd.C_below HR0_0.out HB.out) | (with_reducible refine Kd.C_alloc ?_ _) | (with_reducible refine Kd.C_drewN ?_ _) | (with_reducible refine Kd.C_drew ?_))); (case side2 => exact HC0_0.out); (case side3 => repeat (first | exact (Kd.C_below HR0_1.out HB.out) | (with_reducible refine Kd.C_alloc ?_ _) | (with_reducible refine Kd.C_drewN ?_ _) | (with_reducible refine Kd.C_drew ?_))); (case side4 => exact HC0_1.out); rintro e w86 ⟨vz5, vz8, rfl, ho0, ho1, hb⟩; refine ⟨_, rfl, ?_⟩; have n0_ := am (Kd.R_lower ho0 (below_size (by repeat first | (with_reducible first | exact HB.out | apply ba | apply bn | apply bd | refine bs (by assumption) ?_) | exact HB.out))); have n1_ := am (Kd.R_lower ho1 (below_size (by repeat first | (with_reducible first | exact HB.out | apply ba | apply bn | apply bd | refine bs (by assumption) ?_) | exact HB.out))); have n2_ := am (blk_below (pk BKz1) hb); have n3_ := am (blk_below (pk BKz2) hb); have n4_ := am (below_step (by repeat first | (with_reducible first | exact HB.out | apply ba | apply bn | apply bd | refine bs (by assumption) ?_) | exact HB.out) hb); clear BKz1; clear BKz2; clear HB; have HOz6 := n0_; have HOz9 := n1_; have BKz1 := n2_; have BKz2 := n3_; have HB := n4_; clear n0_ n1_ n2_ n3_ n4_; obtain ⟨Ao87, co87, eo87⟩ := Kd.R_slice HOz6.out; subst eo87; obtain ⟨hcz88_0, hcz88_1⟩ := bc2 BKz2; obtain ⟨hfz88_0, hfz88_1⟩ := bf2 BKz2; obtain ⟨Ao89, co89, eo89⟩ := Kd.R_slice HOz9.out; subst eo89))
  refine bodyPost_ret (results_ct rfl _ _ gbz2 30 #[.slice Ao87 tz4.length co87, .slice Ao89 tz7.length co89] (0, 0) _ rfl (by (with_reducible repeat (first | refine blk_drewN ?_ _ | refine blk_drew ?_ | refine blk_alloc ?_ _)); apply bp2; exact pk BKz2) Try.underlying30 rfl (by kernel_rfl)) rfl ?_
  exact ⟨_, _, by first | rfl | (simp <;> rfl) | (simp [*] <;> rfl), by (with_reducible repeat first | apply ra | apply rn | apply rd); exact Kd.R_mono (rf2 (Kd.R_types HOz6.out BKz2.out (by decide)) (fun _ hk => hk.2)) (fun _ hk => trivial), by (with_reducible repeat first | apply ra | apply rn | apply rd); exact Kd.R_mono (rf2 (Kd.R_types HOz9.out BKz2.out (by decide)) (fun _ hk => hk.2)) (fun _ hk => trivial), by repeat first | (with_reducible first | exact HB.out | apply ba | apply bn | apply bd | refine bs (by assumption) ?_) | exact HB.out⟩
 subst c4
 have H1 : (columbariumref14_Do.l0 k l1 0 l0_0 l0_1) = some (r1, r2, r3) := by rw [if_pos rfl] at H; exact H
 clear H
 have H := H1
 clear H1
 have H' := am H
 clear H
 go_enter Try.func17, Try.ntmps17
 go_wp2_with (first | ((with_reducible refine gate_dst (N := 2) rfl ?_); refine box_event ?hg (N := 2) ?hd (cs := #[.slice A0_0 l0_0.length c0_0, .slice A0_1 l0_1.length c0_1]) (t := 30) ?hr ?_; (case hd => rfl); (case hg => rfl); (case hr => first | (go_simp; done) | (go_simp; rfl)); intro gbz1 hg w5 hbox hb; have n0_ := am (below_step (pb HB) hb); have n1_ := am (hbox); have n2_ := ge_ hg (pb HB); have n3_ := ge_ hg (pb HB); clear HB; have HB := n0_; have BKz1 := n1_; have GWz1 := n2_; have GEz1 := n3_; clear n0_ n1_ n2_ n3_; clear hb hbox hg) | ((with_reducible refine gate_dst (N := 4) rfl ?_); refine box_event ?hg (N := 4) ?hd (cs := #[.slice none 0 0, .slice none 0 0]) (t := 30) ?hr ?_; (case hd => rfl); (case hg => rfl); (case hr => first | (go_simp; done) | (go_simp; rfl)); intro gbz2 hg w6 hbox hb; have n0_ := am (blk_below (pk BKz1) hb); have n1_ := am (below_step (by repeat first | (with_reducible first | exact HB.out | apply ba | apply bn | apply bd | refine bs (by assumption) ?_) | exact HB.out) hb); have n2_ := am (hbox); have n3_ := ge_ hg (by repeat first | (with_reducible first | exact HB.out | apply ba | apply bn | apply bd | refine bs (by assumption) ?_) | exact HB.out); have n4_ := ge_ hg (by repeat first | (with_reducible first | exact HB.out | apply ba | apply bn | apply bd | refine bs (by assumption) ?_) | exact HB.out); have n5_ := nl_ hg BKz1; have n6_ := ng_ hg BKz1; clear BKz1; clear HB; have BKz1 := n0_; have HB := n1_; have BKz2 := n2_; have GWz2 := n3_; have GEz2 := n4_; have NBz1_z2 := n5_; have NBz2_z1 := n6_; clear n0_ n1_ n2_ n3_ n4_ n5_ n6_; clear hb hbox hg; have hnb7 := NBz1_z2.out; have hnc7 := NBz2_z1.out; obtain ⟨hcz8_0, hcz8_1⟩ := bc2 BKz1; obtain ⟨hfz8_0, hfz8_1⟩ := bf2 BKz1) | ((with_reducible refine gate_callee (f := 21) rfl ?_); refine goesL_ (some 10) rfl rfl Try.func21 (by kernel_rfl) rfl #[.agg #[.slice A0_0 l0_0.length c0_0, .slice A0_1 l0_1.length c0_1]] rfl (by (try simp only [List.map_toArray, List.map_cons, List.map_nil]) <;> rfl) ?_; (with_reducible refine (columbariumref14_Right.calls k _ _ l0_0 _ _ l0_1 true _ ?side1 ?side2 ?side3 ?side4 A3.out).mono ?_); (case side1 => repeat (first | exact (Kd.C_below HR0_0.out HB.out) | (with_reducible refine Kd.C_alloc ?_ _) | (with_reducible refine Kd.C_drewN ?_ _) | (with_reducible refine Kd.C_drew ?_))); (case side2 => exact HC0_0.out); (case side3 => repeat (first | exact (Kd.C_below HR0_1.out HB.out) | (with_reducible refine Kd.C_alloc ?_ _) | (with_reducible refine Kd.C_drewN ?_ _) | (with_reducible refine Kd.C_drew ?_))); (case side4 => exact HC0_1.out); rintro e w9 ⟨rfl, hb⟩; refine ⟨_, rfl, ?_⟩; have n0_ := am (blk_below (pk BKz1) hb); have n1_ := am (blk_below (pk BKz2) hb); have n2_ := am (below_step (by repeat first | (with_reducible first | exact HB.out | apply ba | apply bn | apply bd | refine bs (by assumption) ?_) | exact HB.out) hb); clear BKz1; clear BKz2; clear HB; have BKz1 := n0_; have BKz2 := n1_; have HB := n2_; clear n0_ n1_ n2_; (try clear hi)))
 go_loopg [6] k (fun kq v6 w' => ∃ (x6_1 : Int), v6 = .int .i64 x6_1 ∧ Aside0 (columbariumref14_Do.l0 kq l1 x6_1 l0_0 l0_1 = some (r1, r2, r3)) ∧ Aside0 (kq ≤ k) ∧ Aside0 (w'.heap[gbz1]? = some (.cells #[(.slice A0_0 l0_0.length c0_0), (.slice A0_1 l0_1.length c0_1)] 30 (0, 0))) ∧ Aside0 (w'.heap[gbz2]? = some (.cells #[(.slice none 0 0), (.slice none 0 0)] 30 (0, 0))) ∧ Aside0 (Below w.heap.size w w'))
 case atStart => exact ⟨(0), (by first | rfl | (simp; done) | (simp [*]; done)), H', ⟨Nat.le_refl _⟩, ⟨by (with_reducible repeat (first | refine blk_drewN ?_ _ | refine blk_drew ?_ | refine blk_alloc ?_ _)); exact BKz1.out⟩, ⟨by (with_reducible repeat (first | refine blk_drewN ?_ _ | refine blk_drew ?_ | refine blk_alloc ?_ _)); exact BKz2.out⟩, ⟨by repeat first | (with_reducible first | exact HB.out | apply ba | apply bn | apply bd | refine bs (by assumption) ?_) | exact HB.out⟩⟩
 clear H'
 try clear c1
 try clear c2
 try clear p2
 try clear c4
 try clear c7
 try clear hcz8_0
 try clear hcz8_1
 try clear hfz8_0
 try clear hfz8_1
 obtain ⟨x6_1, rfl, HA, HK1, BKz1, BKz2, HB⟩ := hrel
 cases gk with
 | zero => exact absurd HA.out (by simp [columbariumref14_Do.l0])
 | succ k1 => ?_
 have H := HA.out
 clear HA
 simp only [columbariumref14_Do.l0] at H
 by_cases c10 : x6_1 < (l1.length : Int)
 ·rw [if_pos c10] at H
  have c10b0 : decide (x6_1 < (l1.length : Int)) = true := decide_eq_true c10
  clear c10
  by_cases c11 : 0 ≤ x6_1
  rotate_left
  ·rw [if_neg c11] at H
   exact absurd H (by simp)
  rw [if_pos c11] at H
  have c11b0 : decide (0 ≤ x6_1) = true := decide_eq_true c11
  clear c11
  replace H := ob_ H
  obtain ⟨tz11, A120, H⟩ := H
  replace H : (if tz11 = true then (columbariumref14_Do.l0 k1 l1 (wrap64 (x6_1 + 1)) l0_0 l0_1) else ((columbariumref14_Own.f l0_0 l0_1).bind fun btz12 => (some (btz12.1, btz12.2, 1)))) = some (r1, r2, r3) := H
  have A12 := Aside0.mk A120
  clear A120
  by_cases c13 : tz11 = true
  ·subst c13
   have H1 : (columbariumref14_Do.l0 k1 l1 (wrap64 (x6_1 + 1)) l0_0 l0_1) = some (r1, r2, r3) := by rw [if_pos rfl] at H; exact H
   clear H
   have H := H1
   clear H1
   have H' := am H
   clear H
   try go_wp2
   have n0_ := am (blk_drew BKz1.out)
   have n1_ := am (blk_drew BKz2.out)
   have n2_ := am (below_drew1 HB.out)
   clear BKz1 BKz2 HB; have BKz1 := n0_; have BKz2 := n1_; have HB := n2_; clear n0_ n1_ n2_
   have pz10 : 0 ≤ (x6_1 : Int) := of_decide_eq_true (by first | (with_reducible assumption) | assumption)
   have qz10 : x6_1 < (l1.length : Int) := of_decide_eq_true (by first | (with_reducible assumption) | assumption)
   obtain ⟨adz10, ez10, hxz10_0, hxz10_1, hxz10_2⟩ := at_T24 HR1.out x6_1 pz10 qz10
   have hwz10_2 := hxz10_2
   have hwz10_1 := hxz10_1
   have hwz10_0 := hxz10_0
   cases ez10
   replace hxz10_0 := (HB.out.cell (World.block_lt_of_cell? w _ hxz10_0)).trans hxz10_0
   replace hxz10_1 := (HB.out.cell (World.block_lt_of_cell? w _ hxz10_1)).trans hxz10_1
   replace hxz10_2 := (HB.out.cell (World.block_lt_of_cell? w _ hxz10_2)).trans hxz10_2
   replace pz10 := eq_true pz10
   replace qz10 := eq_true qz10
   refine start_ (n := 9) (S := fun w' => w'.cell? ⟨gbz1, 0, none⟩ = some (.slice A0_0 l0_0.length c0_0) ∧ w'.cell? ⟨gbz1, 1, none⟩ = some (.slice A0_1 l0_1.length c0_1) ∧ w'.cell? (adz10.add ((x6_1).toNat * 3)) = some (.bool ((rd_T24 l1 x6_1).f0)) ∧ w'.cell? ⟨(adz10.add ((x6_1).toNat * 3)).block, (adz10.add ((x6_1).toNat * 3)).off + 1, none⟩ = some (.int .i64 ((rd_T24 l1 x6_1).f1)) ∧ w'.cell? ⟨(adz10.add ((x6_1).toNat * 3)).block, (adz10.add ((x6_1).toNat * 3)).off + 2, none⟩ = some (.string ((rd_T24 l1 x6_1).f2))) (ds := []) #[false, false, false, false, false, false, false, false, false] (by kernel_rfl) rfl rfl ⟨(blk_cell BKz1.out 0).trans rfl, (blk_cell BKz1.out 1).trans rfl, ((HB.out.cell (World.block_lt_of_cell? w _ hwz10_0)).trans hwz10_0), ((HB.out.cell (World.block_lt_of_cell? w _ hwz10_1)).trans hwz10_1), ((HB.out.cell (World.block_lt_of_cell? w _ hwz10_2)).trans hwz10_2)⟩ (fun hHeld => ?_); refine with_tabW columbariumref14_Do.tab6 columbariumref14_Do.bits6 (fun HT_ HW_ => ?_)
   generalize wr.drew = w14 at BKz1 BKz2 HB hxz10_0 hxz10_1 hxz10_2 hHeld ⊢
   refine pu_ 0 (some 20) HT_ rfl rfl (.inl ⟨by rfl, by intro w'; go_simp; with_reducible rfl⟩) (by simp only [Act.put, sa_, s0_, s1_, i64_w, i32_w]; rfl) ?_
   refine pu_ 1 (some 21) HT_ rfl rfl (.inl ⟨by rfl, by intro w'; go_simp; with_reducible rfl⟩) (by simp only [Act.put, sa_, s0_, s1_, i64_w, i32_w]; rfl) ?_
   refine pu_ 2 (some 22) HT_ rfl rfl (.inl ⟨by rfl, by intro w'; go_simp; with_reducible rfl⟩) (by simp only [Act.put, sa_, s0_, s1_, i64_w, i32_w]; rfl) ?_
   refine pu_ 4 (some 24) HT_ rfl rfl (.inl ⟨by rfl, by intro w'; go_simp; with_reducible rfl⟩) (by simp only [Act.put, sa_, s0_, s1_, i64_w, i32_w]; rfl) ?_
   refine tk_ 3 (some 23) HT_ HW_ rfl rfl (.inl ⟨by rfl, by rintro w' ⟨s0, s1, s2, s3, s4⟩; go_simp; with_reducible rfl⟩) hHeld (by simp only [Act.put, sa_, s0_, s1_, i64_w, i32_w]; rfl) ?_
   refine tk_ 5 (some 25) HT_ HW_ rfl rfl (.inl ⟨by rfl, by rintro w' ⟨s0, s1, s2, s3, s4⟩; go_simp; with_reducible rfl⟩) hHeld (by simp only [Act.put, sa_, s0_, s1_, i64_w, i32_w]; rfl) ?_
   refine pu_ 6 (some 26) HT_ rfl rfl (.inl ⟨by rfl, by intro w'; go_simp; with_reducible rfl⟩) (by simp only [Act.put, sa_, s0_, s1_, i64_w, i32_w]; rfl) ?_
   refine on_ 7 (some 27) HT_ rfl rfl (fun K hK => ?_)
   refine goes_ Try.func41 (by kernel_rfl) rfl #[.agg #[.bool ((rd_T24 l1 x6_1).f0), .int .i64 ((rd_T24 l1 x6_1).f1), .string ((rd_T24 l1 x6_1).f2)], .int .i64 (l0_0.length : Int)] (by rfl) rfl rfl (by (try simp only [List.map_toArray, List.map_cons, List.map_nil]) <;> rfl) ?_
   with_reducible refine (columbariumref14_may.calls ((rd_T24 l1 x6_1).f0) ((rd_T24 l1 x6_1).f1) ((rd_T24 l1 x6_1).f2) (l0_0.length : Int) true _ A12.out).mono ?_
   rintro e w15 ⟨rfl, hb⟩
   refine ⟨_, rfl, ?_⟩
   have n0_ := am (blk_below (pk BKz1) hb)
   have n1_ := am (blk_below (pk BKz2) hb)
   have n2_ := am (below_step (by repeat first | (with_reducible first | exact HB.out | apply ba | apply bn | apply bd | refine bs (by assumption) ?_) | exact HB.out) hb)
   clear BKz1 BKz2 HB; have BKz1 := n0_; have BKz2 := n1_; have HB := n2_; clear n0_ n1_ n2_; refine hK.out _ _ ⟨(blk_cell BKz1.out 0).trans rfl, (blk_cell BKz1.out 1).trans rfl, ((HB.out.cell (World.block_lt_of_cell? w _ hwz10_0)).trans hwz10_0), ((HB.out.cell (World.block_lt_of_cell? w _ hwz10_1)).trans hwz10_1), ((HB.out.cell (World.block_lt_of_cell? w _ hwz10_2)).trans hwz10_2)⟩ (fun hHeld => ?_)
   clear hK K
   refine norm_ (by show Act.put _ (some 27) _ = _; simp only [Act.put, sa_, s0_, s1_, i64_w, i32_w]; rfl) ?_
   refine pu_ 8 (some 28) HT_ rfl rfl (.inl ⟨by rfl, by intro w'; go_simp; with_reducible rfl⟩) (by simp only [Act.put, sa_, s0_, s1_, i64_w, i32_w]; rfl) ?_
   refine done_ (done_of HT_.out (by kernel_rfl)) ?_
   try go_wp2
   go_roundg k1
   case measure => have := HK1.out; omega
   case rel => exact ⟨(wrap64 (x6_1 + 1)), (by first | rfl | (simp; done) | (simp [*]; done)), H', ⟨by have := HK1.out; omega⟩, ⟨by (with_reducible repeat (first | refine blk_drewN ?_ _ | refine blk_drew ?_ | refine blk_alloc ?_ _)); exact BKz1.out⟩, ⟨by (with_reducible repeat (first | refine blk_drewN ?_ _ | refine blk_drew ?_ | refine blk_alloc ?_ _)); exact BKz2.out⟩, ⟨by repeat first | (with_reducible first | exact HB.out | apply ba | apply bn | apply bd | refine bs (by assumption) ?_) | exact HB.out⟩⟩
  replace c13 := Bool.eq_false_iff.mpr c13
  subst c13
  have H1 : ((columbariumref14_Own.f l0_0 l0_1).bind fun btz12 => (some (btz12.1, btz12.2, 1))) = some (r1, r2, r3) := by rw [if_neg (show ¬ (false = true) by decide)] at H; exact H
  clear H
  have H := H1
  clear H1
  replace H := ob_ H
  obtain ⟨⟨tz12, tz15⟩, A160, H⟩ := H
  replace H : (some (tz12, tz15, 1)) = some (r1, r2, r3) := H
  have A16 := Aside0.mk A160
  clear A160
  simp only [Option.some.injEq, Prod.mk.injEq] at H
  obtain ⟨rfl, rfl, rfl⟩ := H
  try go_wp2
  have n0_ := am (blk_drew BKz1.out)
  have n1_ := am (blk_drew BKz2.out)
  have n2_ := am (below_drew1 HB.out)
  clear BKz1 BKz2 HB; have BKz1 := n0_; have BKz2 := n1_; have HB := n2_; clear n0_ n1_ n2_
  have pz10 : 0 ≤ (x6_1 : Int) := of_decide_eq_true (by first | (with_reducible assumption) | assumption)
  have qz10 : x6_1 < (l1.length : Int) := of_decide_eq_true (by first | (with_reducible assumption) | assumption)
  obtain ⟨adz10, ez10, hxz10_0, hxz10_1, hxz10_2⟩ := at_T24 HR1.out x6_1 pz10 qz10
  have hwz10_2 := hxz10_2
  have hwz10_1 := hxz10_1
  have hwz10_0 := hxz10_0
  cases ez10
  replace hxz10_0 := (HB.out.cell (World.block_lt_of_cell? w _ hxz10_0)).trans hxz10_0
  replace hxz10_1 := (HB.out.cell (World.block_lt_of_cell? w _ hxz10_1)).trans hxz10_1
  replace hxz10_2 := (HB.out.cell (World.block_lt_of_cell? w _ hxz10_2)).trans hxz10_2
  replace pz10 := eq_true pz10
  replace qz10 := eq_true qz10
  refine start_ (n := 9) (S := fun w' => w'.cell? ⟨gbz1, 0, none⟩ = some (.slice A0_0 l0_0.length c0_0) ∧ w'.cell? ⟨gbz1, 1, none⟩ = some (.slice A0_1 l0_1.length c0_1) ∧ w'.cell? (adz10.add ((x6_1).toNat * 3)) = some (.bool ((rd_T24 l1 x6_1).f0)) ∧ w'.cell? ⟨(adz10.add ((x6_1).toNat * 3)).block, (adz10.add ((x6_1).toNat * 3)).off + 1, none⟩ = some (.int .i64 ((rd_T24 l1 x6_1).f1)) ∧ w'.cell? ⟨(adz10.add ((x6_1).toNat * 3)).block, (adz10.add ((x6_1).toNat * 3)).off + 2, none⟩ = some (.string ((rd_T24 l1 x6_1).f2))) (ds := []) #[false, false, false, false, false, false, false, false, false] (by kernel_rfl) rfl rfl ⟨(blk_cell BKz1.out 0).trans rfl, (blk_cell BKz1.out 1).trans rfl, ((HB.out.cell (World.block_lt_of_cell? w _ hwz10_0)).trans hwz10_0), ((HB.out.cell (World.block_lt_of_cell? w _ hwz10_1)).trans hwz10_1), ((HB.out.cell (World.block_lt_of_cell? w _ hwz10_2)).trans hwz10_2)⟩ (fun hHeld => ?_); refine with_tabW columbariumref14_Do.tab6 columbariumref14_Do.bits6 (fun HT_ HW_ => ?_)
  generalize wr.drew = w17 at BKz1 BKz2 HB hxz10_0 hxz10_1 hxz10_2 hHeld ⊢
  refine pu_ 0 (some 20) HT_ rfl rfl (.inl ⟨by rfl, by intro w'; go_simp; with_reducible rfl⟩) (by simp only [Act.put, sa_, s0_, s1_, i64_w, i32_w]; rfl) ?_
  refine pu_ 1 (some 21) HT_ rfl rfl (.inl ⟨by rfl, by intro w'; go_simp; with_reducible rfl⟩) (by simp only [Act.put, sa_, s0_, s1_, i64_w, i32_w]; rfl) ?_
  refine pu_ 2 (some 22) HT_ rfl rfl (.inl ⟨by rfl, by intro w'; go_simp; with_reducible rfl⟩) (by simp only [Act.put, sa_, s0_, s1_, i64_w, i32_w]; rfl) ?_
  refine pu_ 4 (some 24) HT_ rfl rfl (.inl ⟨by rfl, by intro w'; go_simp; with_reducible rfl⟩) (by simp only [Act.put, sa_, s0_, s1_, i64_w, i32_w]; rfl) ?_
  refine tk_ 3 (some 23) HT_ HW_ rfl rfl (.inl ⟨by rfl, by rintro w' ⟨s0, s1, s2, s3, s4⟩; go_simp; with_reducible rfl⟩) hHeld (by simp only [Act.put, sa_, s0_, s1_, i64_w, i32_w]; rfl) ?_
  refine tk_ 5 (some 25) HT_ HW_ rfl rfl (.inl ⟨by rfl, by rintro w' ⟨s0, s1, s2, s3, s4⟩; go_simp; with_reducible rfl⟩) hHeld (by simp only [Act.put, sa_, s0_, s1_, i64_w, i32_w]; rfl) ?_
  refine pu_ 6 (some 26) HT_ rfl rfl (.inl ⟨by rfl, by intro w'; go_simp; with_reducible rfl⟩) (by simp only [Act.put, sa_, s0_, s1_, i64_w, i32_w]; rfl) ?_
  refine on_ 7 (some 27) HT_ rfl rfl (fun K hK => ?_)
  refine goes_ Try.func41 (by kernel_rfl) rfl #[.agg #[.bool ((rd_T24 l1 x6_1).f0), .int .i64 ((rd_T24 l1 x6_1).f1), .string ((rd_T24 l1 x6_1).f2)], .int .i64 (l0_0.length : Int)] (by rfl) rfl rfl (by (try simp only [List.map_toArray, List.map_cons, List.map_nil]) <;> rfl) ?_
  with_reducible refine (columbariumref14_may.calls ((rd_T24 l1 x6_1).f0) ((rd_T24 l1 x6_1).f1) ((rd_T24 l1 x6_1).f2) (l0_0.length : Int) false _ A12.out).mono ?_
  rintro e w18 ⟨rfl, hb⟩
  refine ⟨_, rfl, ?_⟩
  have n0_ := am (blk_below (pk BKz1) hb)
  have n1_ := am (blk_below (pk BKz2) hb)
  have n2_ := am (below_step (by repeat first | (with_reducible first | exact HB.out | apply ba | apply bn | apply bd | refine bs (by assumption) ?_) | exact HB.out) hb)
  clear BKz1 BKz2 HB; have BKz1 := n0_; have BKz2 := n1_; have HB := n2_; clear n0_ n1_ n2_; refine hK.out _ _ ⟨(blk_cell BKz1.out 0).trans rfl, (blk_cell BKz1.out 1).trans rfl, ((HB.out.cell (World.block_lt_of_cell? w _ hwz10_0)).trans hwz10_0), ((HB.out.cell (World.block_lt_of_cell? w _ hwz10_1)).trans hwz10_1), ((HB.out.cell (World.block_lt_of_cell? w _ hwz10_2)).trans hwz10_2)⟩ (fun hHeld => ?_)
  clear hK K
  refine norm_ (by show Act.put _ (some 27) _ = _; simp only [Act.put, sa_, s0_, s1_, i64_w, i32_w]; rfl) ?_
  refine pu_ 8 (some 28) HT_ rfl rfl (.inl ⟨by rfl, by intro w'; go_simp; with_reducible rfl⟩) (by simp only [Act.put, sa_, s0_, s1_, i64_w, i32_w]; rfl) ?_
  refine done_ (done_of HT_.out (by kernel_rfl)) ?_
  have hnb19 := NBz1_z2.out
  have hnc19 := NBz2_z1.out
  obtain ⟨hcz20_0, hcz20_1⟩ := bc2 BKz1
  obtain ⟨hfz20_0, hfz20_1⟩ := bf2 BKz1
  try go_wp2_with (first | ((with_reducible refine gate_callee (f := 19) rfl ?_); refine goesL_ (some 30) rfl rfl Try.func19 (by kernel_rfl) rfl #[.agg #[.slice A0_0 l0_0.length c0_0, .slice A0_1 l0_1.length c0_1]] rfl (by (try simp only [List.map_toArray, List.map_cons, List.map_nil]) <;> rfl) ?_; (with_reducible refine (columbariumref14_Own.calls _ _ l0_0 _ _ l0_1 tz12 tz15 _ ?side1 ?side2 ?side3 ?side4 A16.out).mono ?_); (case side1 => repeat (first | exact (Kd.C_below HR0_0.out HB.out) | (with_reducible refine Kd.C_alloc ?_ _) | (with_reducible refine Kd.C_drewN ?_ _) | (with_reducible refine Kd.C_drew ?_))); (case side2 => exact HC0_0.out); (case side3 => repeat (first | exact (Kd.C_below HR0_1.out HB.out) | (with_reducible refine Kd.C_alloc ?_ _) | (with_reducible refine Kd.C_drewN ?_ _) | (with_reducible refine Kd.C_drew ?_))); (case side4 => exact HC0_1.out); rintro e w21 ⟨vz13, vz16, rfl, ho0, ho1, hb⟩; refine ⟨_, rfl, ?_⟩; have n0_ := am (Kd.R_lower ho0 (below_size (by repeat first | (with_reducible first | exact HB.out | apply ba | apply bn | apply bd | refine bs (by assumption) ?_) | exact HB.out))); have n1_ := am (Kd.R_lower ho1 (below_size (by repeat first | (with_reducible first | exact HB.out | apply ba | apply bn | apply bd | refine bs (by assumption) ?_) | exact HB.out))); have n2_ := am (blk_below (pk BKz1) hb); have n3_ := am (blk_below (pk BKz2) hb); have n4_ := am (below_step (by repeat first | (with_reducible first | exact HB.out | apply ba | apply bn | apply bd | refine bs (by assumption) ?_) | exact HB.out) hb); clear BKz1; clear BKz2; clear HB; have HOz14 := n0_; have HOz17 := n1_; have BKz1 := n2_; have BKz2 := n3_; have HB := n4_; clear n0_ n1_ n2_ n3_ n4_; obtain ⟨Ao22, co22, eo22⟩ := Kd.R_slice HOz14.out; subst eo22; obtain ⟨hcz23_0, hcz23_1⟩ := bc2 BKz2; obtain ⟨hfz23_0, hfz23_1⟩ := bf2 BKz2; obtain ⟨Ao24, co24, eo24⟩ := Kd.R_slice HOz17.out; subst eo24))
  refine bodyPost_ret (results_ct rfl _ _ gbz2 30 #[.slice Ao22 tz12.length co22, .slice Ao24 tz15.length co24] (0, 0) _ rfl (by (with_reducible repeat (first | refine blk_drewN ?_ _ | refine blk_drew ?_ | refine blk_alloc ?_ _)); apply bp2; exact pk BKz2) Try.underlying30 rfl (by kernel_rfl)) rfl ?_
  exact ⟨_, _, by first | rfl | (simp <;> rfl) | (simp [*] <;> rfl), by (with_reducible repeat first | apply ra | apply rn | apply rd); exact Kd.R_mono (rf2 (Kd.R_types HOz14.out BKz2.out (by decide)) (fun _ hk => hk.2)) (fun _ hk => trivial), by (with_reducible repeat first | apply ra | apply rn | apply rd); exact Kd.R_mono (rf2 (Kd.R_types HOz17.out BKz2.out (by decide)) (fun _ hk => hk.2)) (fun _ hk => trivial), by repeat first | (with_reducible first | exact HB.out | apply ba | apply bn | apply bd | refine bs (by assumption) ?_) | exact HB.out⟩
 rw [if_neg c10] at H
 have c10b0 : decide (x6_1 < (l1.length : Int)) = false := decide_eq_false c10
 clear c10
 replace H := ob_ H
 obtain ⟨⟨tz18, tz21⟩, A250, H⟩ := H
 replace H : (columbariumref14_Do.l1 k1 l1 0 l0_0 l0_1 tz18 tz21) = some (r1, r2, r3) := H
 have A25 := Aside0.mk A250
 clear A250
 have H' := am H
 clear H
 have hnb26 := NBz1_z2.out
 have hnc26 := NBz2_z1.out
 obtain ⟨hcz27_0, hcz27_1⟩ := bc2 BKz1
 obtain ⟨hfz27_0, hfz27_1⟩ := bf2 BKz1
 go_wp2_with (first | ((with_reducible refine gate_callee (f := 19) rfl ?_); refine goesL_ (some 32) rfl rfl Try.func19 (by kernel_rfl) rfl #[.agg #[.slice A0_0 l0_0.length c0_0, .slice A0_1 l0_1.length c0_1]] rfl (by (try simp only [List.map_toArray, List.map_cons, List.map_nil]) <;> rfl) ?_; (with_reducible refine (columbariumref14_Own.calls _ _ l0_0 _ _ l0_1 tz18 tz21 _ ?side1 ?side2 ?side3 ?side4 A25.out).mono ?_); (case side1 => repeat (first | exact (Kd.C_below HR0_0.out HB.out) | (with_reducible refine Kd.C_alloc ?_ _) | (with_reducible refine Kd.C_drewN ?_ _) | (with_reducible refine Kd.C_drew ?_))); (case side2 => exact HC0_0.out); (case side3 => repeat (first | exact (Kd.C_below HR0_1.out HB.out) | (with_reducible refine Kd.C_alloc ?_ _) | (with_reducible refine Kd.C_drewN ?_ _) | (with_reducible refine Kd.C_drew ?_))); (case side4 => exact HC0_1.out); rintro e w28 ⟨vz19, vz22, rfl, ho0, ho1, hb⟩; refine ⟨_, rfl, ?_⟩; have n0_ := am (Kd.R_lower ho0 (below_size (by repeat first | (with_reducible first | exact HB.out | apply ba | apply bn | apply bd | refine bs (by assumption) ?_) | exact HB.out))); have n1_ := am (Kd.R_lower ho1 (below_size (by repeat first | (with_reducible first | exact HB.out | apply ba | apply bn | apply bd | refine bs (by assumption) ?_) | exact HB.out))); have n2_ := am (blk_below (pk BKz1) hb); have n3_ := am (blk_below (pk BKz2) hb); have n4_ := am (below_step (by repeat first | (with_reducible first | exact HB.out | apply ba | apply bn | apply bd | refine bs (by assumption) ?_) | exact HB.out) hb); clear BKz1; clear BKz2; clear HB; have HOz20 := n0_; have HOz23 := n1_; have BKz1 := n2_; have BKz2 := n3_; have HB := n4_; clear n0_ n1_ n2_ n3_ n4_; (try clear ho1)) | ((with_reducible refine gate_dst (N := 7) rfl ?_); refine box_event ?hg (N := 7) ?hd (cs := #[.slice none 0 0, .slice none 0 0]) (t := 30) ?hr ?_; (case hd => rfl); (case hg => rfl); (case hr => first | (go_simp; done) | (go_simp; rfl)); intro gbz24 hg w29 hbox hb; have n0_ := am (Kd.R_below (pr HOz20) hb); have n1_ := am (Kd.R_below (pr HOz23) hb); have n2_ := am (blk_below (pk BKz1) hb); have n3_ := am (blk_below (pk BKz2) hb); have n4_ := am (below_step (by repeat first | (with_reducible first | exact HB.out | apply ba | apply bn | apply bd | refine bs (by assumption) ?_) | exact HB.out) hb); have n5_ := am (hbox); have n6_ := ge_ hg (by repeat first | (with_reducible first | exact HB.out | apply ba | apply bn | apply bd | refine bs (by assumption) ?_) | exact HB.out); have n7_ := ge_ hg (by repeat first | (with_reducible first | exact HB.out | apply ba | apply bn | apply bd | refine bs (by assumption) ?_) | exact HB.out); have n8_ := nl_ hg BKz1; have n9_ := ng_ hg BKz1; have n10_ := nl_ hg BKz2; have n11_ := ng_ hg BKz2; clear HOz20; clear HOz23; clear BKz1; clear BKz2; clear HB; have HOz20 := n0_; have HOz23 := n1_; have BKz1 := n2_; have BKz2 := n3_; have HB := n4_; have BKz24 := n5_; have GWz24 := n6_; have GEz24 := n7_; have NBz1_z24 := n8_; have NBz24_z1 := n9_; have NBz2_z24 := n10_; have NBz24_z2 := n11_; clear n0_ n1_ n2_ n3_ n4_ n5_ n6_ n7_ n8_ n9_ n10_ n11_; clear hb hbox hg; obtain ⟨Ao30, co30, eo30⟩ := Kd.R_slice HOz20.out; subst eo30; have hnb31 := NBz24_z1.out; have hnc31 := NBz1_z24.out; have hnb32 := NBz24_z2.out; have hnc32 := NBz2_z24.out; obtain ⟨hcz33_0, hcz33_1⟩ := bc2 BKz24; obtain ⟨hfz33_0, hfz33_1⟩ := bf2 BKz24; obtain ⟨Ao34, co34, eo34⟩ := Kd.R_slice HOz23.out; subst eo34))
 go_loopg [8] k1 (fun kq v8 w' => ∃ (x8_2 : Int) (xz25000_2 : List ByteArray) (xz25001_2 : List (S24)) (uz25000 : Value) (uz25001 : Value), v8 = .int .i64 x8_2 ∧ Aside0 (columbariumref14_Do.l1 kq l1 x8_2 l0_0 l0_1 xz25000_2 xz25001_2 = some (r1, r2, r3)) ∧ Aside0 (kq ≤ k1) ∧ Aside0 (Kd.R Kd.string 9 w' w.heap.size (fun _ => True) uz25000 xz25000_2) ∧ Aside0 (Kd.R k24 24 w' w.heap.size (fun _ => True) uz25001 xz25001_2) ∧ Aside0 (w'.heap[gbz1]? = some (.cells #[(.slice A0_0 l0_0.length c0_0), (.slice A0_1 l0_1.length c0_1)] 30 (0, 0))) ∧ Aside0 (w'.heap[gbz2]? = some (.cells #[(.slice none 0 0), (.slice none 0 0)] 30 (0, 0))) ∧ Aside0 (w'.heap[gbz24]? = some (.cells #[uz25000, uz25001] 30 (0, 0))) ∧ Aside0 (Below w.heap.size w w'))
 case atStart => exact ⟨(0), (tz18), (tz21), (.slice Ao30 tz18.length co30), (.slice Ao34 tz21.length co34), (by first | rfl | (simp; done) | (simp [*]; done)), H', ⟨Nat.le_refl _⟩, ⟨by (with_reducible repeat first | apply ra | apply rn | apply rd); exact Kd.R_mono (rf2 (Kd.R_types HOz20.out BKz24.out (by decide)) (fun _ hk => hk.2)) (fun _ hk => trivial)⟩, ⟨by (with_reducible repeat first | apply ra | apply rn | apply rd); exact Kd.R_mono (rf2 (Kd.R_types HOz23.out BKz24.out (by decide)) (fun _ hk => hk.2)) (fun _ hk => trivial)⟩, ⟨by (with_reducible repeat (first | refine blk_drewN ?_ _ | refine blk_drew ?_ | refine blk_alloc ?_ _)); refine blk_far ?_ NBz1_z24.out _; refine blk_far ?_ NBz1_z24.out _; (with_reducible repeat (first | refine blk_drewN ?_ _ | refine blk_drew ?_ | refine blk_alloc ?_ _)); exact BKz1.out⟩, ⟨by (with_reducible repeat (first | refine blk_drewN ?_ _ | refine blk_drew ?_ | refine blk_alloc ?_ _)); refine blk_far ?_ NBz2_z24.out _; refine blk_far ?_ NBz2_z24.out _; (with_reducible repeat (first | refine blk_drewN ?_ _ | refine blk_drew ?_ | refine blk_alloc ?_ _)); exact BKz2.out⟩, ⟨by (with_reducible repeat (first | refine blk_drewN ?_ _ | refine blk_drew ?_ | refine blk_alloc ?_ _)); apply bp2; (with_reducible repeat (first | refine blk_drewN ?_ _ | refine blk_drew ?_ | refine blk_alloc ?_ _)); exact BKz24.out⟩, ⟨by repeat first | (with_reducible first | exact HB.out | apply ba | apply bn | apply bd | refine bs (by assumption) ?_) | exact HB.out⟩⟩
 clear H'
 try clear c1
 try clear p1
 try clear q1
 try clear hx1
 try clear c2
 try clear p2
 try clear c3
 try clear c4
 try clear p6
 try clear c7
 try clear c10
 try clear c10b0
 try clear c11
 try clear c11b0
 try clear c13
 try clear c17
 try clear p17
 try clear q17
 try clear hx17
 try clear c19
 try clear c21
 try clear c26
 try clear c31
 try clear c32
 try clear hcz20_0
 try clear hcz20_1
 try clear hcz23_0
 try clear hcz23_1
 try clear hcz27_0
 try clear hcz27_1
 try clear hcz33_0
 try clear hcz33_1
 try clear hcz8_0
 try clear hcz8_1
 try clear hfz20_0
 try clear hfz20_1
 try clear hfz23_0
 try clear hfz23_1
 try clear hfz27_0
 try clear hfz27_1
 try clear hfz33_0
 try clear hfz33_1
 try clear hfz8_0
 try clear hfz8_1
 try clear hxz10_0
 try clear hxz10_1
 try clear hxz10_2
 try clear pz10
 try clear p2
 try clear qz10
 obtain ⟨x8_2, xz25000_2, xz25001_2, uz25000, uz25001, rfl, HA, HK2, HO_z25000, HO_z25001, BKz1, BKz2, BKz24, HB⟩ := hrel
 cases gk with
 | zero => exact absurd HA.out (by simp [columbariumref14_Do.l1])
 | succ k2 => ?_
 have H := HA.out
 clear HA
 simp only [columbariumref14_Do.l1] at H
 by_cases c35 : x8_2 < (l1.length : Int)
 rotate_left
 ·rw [if_neg c35] at H
  have c35b0 : decide (x8_2 < (l1.length : Int)) = false := decide_eq_false c35
  clear c35
  simp only [Option.some.injEq, Prod.mk.injEq] at H
  obtain ⟨rfl, rfl, rfl⟩ := H
  have hnb72 := NBz24_z1.out
  have hnc72 := NBz1_z24.out
  have hnb73 := NBz24_z2.out
  have hnc73 := NBz2_z24.out
  obtain ⟨hcz74_0, hcz74_1⟩ := bc2 BKz24
  obtain ⟨hfz74_0, hfz74_1⟩ := bf2 BKz24
  obtain ⟨Ao75, co75, eo75⟩ := Kd.R_slice HO_z25000.out
  subst eo75
  have hnb76 := NBz2_z1.out
  have hnc76 := NBz1_z2.out
  obtain ⟨hcz77_0, hcz77_1⟩ := bc2 BKz2
  obtain ⟨hfz77_0, hfz77_1⟩ := bf2 BKz2
  obtain ⟨Ao78, co78, eo78⟩ := Kd.R_slice HO_z25001.out
  subst eo78
  go_wp2
  refine bodyPost_ret (results_ct rfl _ _ gbz2 30 #[.slice Ao75 xz25000_2.length co75, .slice Ao78 xz25001_2.length co78] (0, 0) _ rfl (by (with_reducible repeat (first | refine blk_drewN ?_ _ | refine blk_drew ?_ | refine blk_alloc ?_ _)); apply bp2; exact pk BKz2) Try.underlying30 rfl (by kernel_rfl)) rfl ?_
  exact ⟨_, _, by first | rfl | (simp <;> rfl) | (simp [*] <;> rfl), by (with_reducible repeat first | apply ra | apply rn | apply rd); exact Kd.R_mono (rf2 (Kd.R_types HO_z25000.out BKz2.out (by decide)) (fun _ hk => hk.2)) (fun _ hk => trivial), by (with_reducible repeat first | apply ra | apply rn | apply rd); exact Kd.R_mono (rf2 (Kd.R_types HO_z25001.out BKz2.out (by decide)) (fun _ hk => hk.2)) (fun _ hk => trivial), by repeat first | (with_reducible first | exact HB.out | apply ba | apply bn | apply bd | refine bs (by assumption) ?_) | exact HB.out⟩
 rw [if_pos c35] at H
 have c35b0 : decide (x8_2 < (l1.length : Int)) = true := decide_eq_true c35
 clear c35
 by_cases c36 : 0 ≤ x8_2
 rotate_left
 ·rw [if_neg c36] at H
  exact absurd H (by simp)
 rw [if_pos c36] at H
 have c36b0 : decide (0 ≤ x8_2) = true := decide_eq_true c36
 clear c36
 obtain ⟨bq37, hbq37⟩ : ∃ b_ : Bool, b_ = ((rd_T24 l1 x8_2).f0) := ⟨_, rfl⟩
 replace H : (if bq37 = true then ((columbariumref14_whole.f k2 (xz25001_2.length : Int)).bind fun tz26 => ((columbariumref14_fallen.f k2 xz25000_2 xz25001_2 tz26).bind fun btz29 => (columbariumref14_Do.l1 k2 l1 (wrap64 (x8_2 + 1)) l0_0 l0_1 btz29.1 btz29.2))) else (if (xz25001_2.length : Int) ≥ 3000 then ((columbariumref14_Own.f l0_0 l0_1).bind fun btz35 => (some (btz35.1, btz35.2, 2))) else (if xz25001_2.length < 4398046511104 then (columbariumref14_Do.l1 k2 l1 (wrap64 (x8_2 + 1)) l0_0 l0_1 xz25000_2 (xz25001_2 ++ [(⟨bq37, (rd_T24 l1 x8_2).f1, (rd_T24 l1 x8_2).f2⟩ : S24)])) else (none)))) = some (r1, r2, r3) := by rw [← hbq37] at H; exact H
 have Nbq37 := am hbq37
 clear hbq37
 by_cases c38 : bq37 = true
 ·subst c38
  have H1 : ((columbariumref14_whole.f k2 (xz25001_2.length : Int)).bind fun tz26 => ((columbariumref14_fallen.f k2 xz25000_2 xz25001_2 tz26).bind fun btz29 => (columbariumref14_Do.l1 k2 l1 (wrap64 (x8_2 + 1)) l0_0 l0_1 btz29.1 btz29.2))) = some (r1, r2, r3) := by rw [if_pos rfl] at H; exact H
  clear H
  have H := H1
  clear H1
  replace H := ob_ H
  obtain ⟨tz26, A390, H⟩ := H
  replace H : ((columbariumref14_fallen.f k2 xz25000_2 xz25001_2 tz26).bind fun btz29 => (columbariumref14_Do.l1 k2 l1 (wrap64 (x8_2 + 1)) l0_0 l0_1 btz29.1 btz29.2)) = some (r1, r2, r3) := H
  have A39 := Aside0.mk A390
  clear A390
  replace H := ob_ H
  obtain ⟨⟨tz29, tz32⟩, A400, H⟩ := H
  replace H : (columbariumref14_Do.l1 k2 l1 (wrap64 (x8_2 + 1)) l0_0 l0_1 tz29 tz32) = some (r1, r2, r3) := H
  have A40 := Aside0.mk A400
  clear A400
  have H' := am H
  clear H
  have pz25 : 0 ≤ (x8_2 : Int) := of_decide_eq_true (by first | (with_reducible assumption) | assumption)
  have qz25 : x8_2 < (l1.length : Int) := of_decide_eq_true (by first | (with_reducible assumption) | assumption)
  obtain ⟨adz25, ez25, hxz25_0, hxz25_1, hxz25_2⟩ := at_T24 HR1.out x8_2 pz25 qz25
  (try rw [← Nbq37.out] at hxz25_0); (try rw [← Nbq37.out] at hwz25_0)
  cases ez25
  replace hxz25_0 := (HB.out.cell (World.block_lt_of_cell? w _ hxz25_0)).trans hxz25_0
  replace hxz25_1 := (HB.out.cell (World.block_lt_of_cell? w _ hxz25_1)).trans hxz25_1
  replace hxz25_2 := (HB.out.cell (World.block_lt_of_cell? w _ hxz25_2)).trans hxz25_2
  replace pz25 := eq_true pz25
  replace qz25 := eq_true qz25
  try go_wp2
  have n0_ := am (Kd.R_drew HO_z25000.out)
  have n1_ := am (Kd.R_drew HO_z25001.out)
  have n2_ := am (blk_drew BKz1.out)
  have n3_ := am (blk_drew BKz2.out)
  have n4_ := am (blk_drew BKz24.out)
  have n5_ := am (below_drew1 HB.out)
  clear HO_z25000 HO_z25001 BKz1 BKz2 BKz24 HB; have HO_z25000 := n0_; have HO_z25001 := n1_; have BKz1 := n2_; have BKz2 := n3_; have BKz24 := n4_; have HB := n5_; clear n0_ n1_ n2_ n3_ n4_ n5_
  obtain ⟨Ao42, co42, eo42⟩ := Kd.R_slice HO_z25001.out
  (first | subst eo42 | (injection eo42 with f1_ f2_ f3_; have f4_ := f1_.symm; have f5_ := f3_.symm; clear f1_ f2_ f3_; subst f4_; subst f5_))
  refine start_ (n := 7) (S := fun w' => w'.cell? ⟨gbz24, 0, none⟩ = some (uz25000) ∧ w'.cell? ⟨gbz24, 1, none⟩ = some (.slice Ao42 xz25001_2.length co42)) (ds := [6]) #[false, false, false, false, false, false, false] (by kernel_rfl) rfl rfl (bc2 BKz24) (fun hHeld => ?_)
  generalize wr.drew = w41 at HO_z25000 HO_z25001 BKz1 BKz2 BKz24 HB hHeld ⊢
  refine pn_ 1 (some 45) rfl rfl (.inl ⟨by rfl, by intro w'; go_simp; with_reducible rfl⟩) (by simp only [Act.put, sa_, s0_, s1_, i64_w, i32_w]; rfl) ?_
  refine tn_ 0 (some 44) rfl rfl (.inl ⟨by rfl, by rintro w' ⟨s0, s1⟩; go_simp; with_reducible rfl⟩) hHeld (by simp only [Act.put, sa_, s0_, s1_, i64_w, i32_w]; rfl) ?_
  refine tn_ 2 (some 46) rfl rfl (.inl ⟨by rfl, by rintro w' ⟨s0, s1⟩; go_simp; with_reducible rfl⟩) hHeld (by simp only [Act.put, sa_, s0_, s1_, i64_w, i32_w]; rfl) ?_
  refine pn_ 3 (some 47) rfl rfl (.inl ⟨by rfl, by intro w'; go_simp; with_reducible rfl⟩) (by simp only [Act.put, sa_, s0_, s1_, i64_w, i32_w]; rfl) ?_
  refine one_ (i := 4) (N := some 48) #[true, true, true, true, true, false, false] rfl rfl (by kernel_rfl) (by decide) (fun K hK => ?_)
  refine goes_ Try.func43 (by kernel_rfl) rfl #[.int .i64 (xz25001_2.length : Int)] (by rfl) rfl rfl (by (try simp only [List.map_toArray, List.map_cons, List.map_nil]) <;> rfl) ?_
  with_reducible refine (columbariumref14_whole.calls k2 (xz25001_2.length : Int) tz26 _ A39.out).mono ?_
  rintro e w43 ⟨vz27, rfl, ho0, hb⟩
  refine ⟨_, rfl, ?_⟩
  have n0_ := am (Kd.R_below (pr HO_z25000) hb)
  have n1_ := am (Kd.R_below (pr HO_z25001) hb)
  have n2_ := am (Kd.R_lower ho0 (below_size (by repeat first | (with_reducible first | exact HB.out | apply ba | apply bn | apply bd | refine bs (by assumption) ?_) | exact HB.out)))
  have n3_ := am (blk_below (pk BKz1) hb)
  have n4_ := am (blk_below (pk BKz2) hb)
  have n5_ := am (blk_below (pk BKz24) hb)
  have n6_ := am (below_step (by repeat first | (with_reducible first | exact HB.out | apply ba | apply bn | apply bd | refine bs (by assumption) ?_) | exact HB.out) hb)
  clear HO_z25000 HO_z25001 BKz1 BKz2 BKz24 HB; have HO_z25000 := n0_; have HO_z25001 := n1_; have HOz28 := n2_; have BKz1 := n3_; have BKz2 := n4_; have BKz24 := n5_; have HB := n6_; clear n0_ n1_ n2_ n3_ n4_ n5_ n6_; obtain ⟨Ao44, co44, eo44⟩ := Kd.R_slice HO_z25000.out
  (first | subst eo44 | (injection eo44 with f1_ f2_ f3_; have f4_ := f1_.symm; have f5_ := f3_.symm; clear f1_ f2_ f3_; subst f4_; subst f5_))
  obtain ⟨Ao45, co45, eo45⟩ := Kd.R_slice HOz28.out
  (first | subst eo45 | (injection eo45 with f1_ f2_ f3_; have f4_ := f1_.symm; have f5_ := f3_.symm; clear f1_ f2_ f3_; subst f4_; subst f5_))
  refine hK.out _ _ (bc2 BKz24) (fun hHeld => ?_)
  clear hK K
  refine norm_ (by show Act.put _ (some 48) _ = _; simp only [Act.put, sa_, s0_, s1_, i64_w, i32_w]; rfl) ?_
  refine one_ (i := 5) (N := some 49) #[true, true, true, true, true, true, false] rfl rfl (by kernel_rfl) (by decide) (fun K hK => ?_)
  refine goes_ Try.func42 (by kernel_rfl) rfl #[.agg #[.slice Ao44 xz25000_2.length co44, .slice Ao42 xz25001_2.length co42], .slice Ao45 tz26.length co45] (by rfl) rfl rfl (by (try simp only [List.map_toArray, List.map_cons, List.map_nil]) <;> rfl) ?_
  with_reducible refine (columbariumref14_fallen.calls k2 _ _ xz25000_2 _ _ xz25001_2 _ _ tz26 tz29 tz32 _ ?side1 ?side2 ?side3 ?side4 ?side5 ?side6 A40.out).mono ?_
  (case side1 => repeat (first | exact (Kd.R_reads' HO_z25000.out).2.2 | (with_reducible refine Kd.C_alloc ?_ _) | (with_reducible refine Kd.C_drewN ?_ _) | (with_reducible refine Kd.C_drew ?_)))
  (case side2 => exact (Kd.R_reads' HO_z25000.out).2.1)
  (case side3 => repeat (first | exact (Kd.R_reads' HO_z25001.out).2.2 | (with_reducible refine Kd.C_alloc ?_ _) | (with_reducible refine Kd.C_drewN ?_ _) | (with_reducible refine Kd.C_drew ?_)))
  (case side4 => exact (Kd.R_reads' HO_z25001.out).2.1)
  (case side5 => repeat (first | exact (Kd.R_reads' HOz28.out).2.2 | (with_reducible refine Kd.C_alloc ?_ _) | (with_reducible refine Kd.C_drewN ?_ _) | (with_reducible refine Kd.C_drew ?_)))
  (case side6 => exact (Kd.R_reads' HOz28.out).2.1)
  rintro e w46 ⟨vz30, vz33, rfl, ho0, ho1, hb⟩
  refine ⟨_, rfl, ?_⟩
  have n0_ := am (Kd.R_elder' (pr HO_z25000) (Kd.R_base ho0) hb)
  have n1_ := am (Kd.R_elder' (pr HO_z25001) (Kd.R_base ho1) hb)
  have n2_ := am (Kd.R_below (pr HOz28) hb)
  have n3_ := am (Kd.R_lower (Kd.R_new' ho0 (Kd.R_lt (pr HO_z25000))) (below_size (by repeat first | (with_reducible first | exact HB.out | apply ba | apply bn | apply bd | refine bs (by assumption) ?_) | exact HB.out)))
  have n4_ := am (Kd.R_lower (Kd.R_new' ho1 (Kd.R_lt (pr HO_z25001))) (below_size (by repeat first | (with_reducible first | exact HB.out | apply ba | apply bn | apply bd | refine bs (by assumption) ?_) | exact HB.out)))
  have n5_ := am (blk_below (pk BKz1) hb)
  have n6_ := am (blk_below (pk BKz2) hb)
  have n7_ := am (blk_below (pk BKz24) hb)
  have n8_ := am (below_step (by repeat first | (with_reducible first | exact HB.out | apply ba | apply bn | apply bd | refine bs (by assumption) ?_) | exact HB.out) hb)
  clear HO_z25000 HO_z25001 HOz28 BKz1 BKz2 BKz24 HB; have HO_z25000 := n0_; have HO_z25001 := n1_; have HOz28 := n2_; have HOz31 := n3_; have HOz34 := n4_; have BKz1 := n5_; have BKz2 := n6_; have BKz24 := n7_; have HB := n8_; clear n0_ n1_ n2_ n3_ n4_ n5_ n6_ n7_ n8_; obtain ⟨Ao47, co47, eo47⟩ := Kd.R_slice HOz31.out
  (first | subst eo47 | (injection eo47 with f1_ f2_ f3_; have f4_ := f1_.symm; have f5_ := f3_.symm; clear f1_ f2_ f3_; subst f4_; subst f5_))
  obtain ⟨Ao49, co49, eo49⟩ := Kd.R_slice HOz34.out
  (first | subst eo49 | (injection eo49 with f1_ f2_ f3_; have f4_ := f1_.symm; have f5_ := f3_.symm; clear f1_ f2_ f3_; subst f4_; subst f5_))
  refine hK.out _ _ (bc2 BKz24) (fun hHeld => ?_)
  clear hK K
  refine norm_ (by show Act.put _ (some 49) _ = _; simp only [Act.put, sa_, s0_, s1_, i64_w, i32_w]; rfl) ?_
  refine last_ (i := 6) (N := none) #[true, true, true, true, true, true, true] rfl rfl (by kernel_rfl) (by decide) (fun K hK => ?_)
  have hs48 : w46.cell? ⟨gbz24, 0, none⟩ = some (.slice Ao44 xz25000_2.length co44) := (blk_cell BKz24.out 0).trans rfl
  have hfs48 := blk_frozen BKz24.out 0
  have := NBz1_z24.out
  have := NBz2_z24.out
  have := NBz24_z1.out
  have := NBz24_z2.out
  have hs50 : w46.cell? ⟨gbz24, 1, none⟩ = some (.slice Ao42 xz25001_2.length co42) := (blk_cell BKz24.out 1).trans rfl
  have hfs50 := blk_frozen BKz24.out 1
  have := NBz1_z24.out
  have := NBz2_z24.out
  have := NBz24_z1.out
  have := NBz24_z2.out
  refine skip_ (by rfl) rfl (by go_simp; rfl) ?_
  refine hK.out _ _ ?_
  clear hK K
  refine done_ (by kernel_rfl) ?_
  try go_wp2
  go_roundg k2
  case measure => have := HK1.out; have := HK2.out; omega
  case rel => exact ⟨(wrap64 (x8_2 + 1)), (tz29), (tz32), (.slice Ao47 tz29.length co47), (.slice Ao49 tz32.length co49), (by first | rfl | (simp; done) | (simp [*]; done)), H', ⟨by have := HK1.out; have := HK2.out; omega⟩, ⟨by (with_reducible repeat first | apply ra | apply rn | apply rd); exact Kd.R_mono (rf2 (Kd.R_types HOz31.out BKz24.out (by decide)) (fun _ hk => hk.2)) (fun _ hk => trivial)⟩, ⟨by (with_reducible repeat first | apply ra | apply rn | apply rd); exact Kd.R_mono (rf2 (Kd.R_types HOz34.out BKz24.out (by decide)) (fun _ hk => hk.2)) (fun _ hk => trivial)⟩, ⟨by (with_reducible repeat (first | refine blk_drewN ?_ _ | refine blk_drew ?_ | refine blk_alloc ?_ _)); refine blk_far ?_ NBz1_z24.out _; refine blk_far ?_ NBz1_z24.out _; (with_reducible repeat (first | refine blk_drewN ?_ _ | refine blk_drew ?_ | refine blk_alloc ?_ _)); exact BKz1.out⟩, ⟨by (with_reducible repeat (first | refine blk_drewN ?_ _ | refine blk_drew ?_ | refine blk_alloc ?_ _)); refine blk_far ?_ NBz2_z24.out _; refine blk_far ?_ NBz2_z24.out _; (with_reducible repeat (first | refine blk_drewN ?_ _ | refine blk_drew ?_ | refine blk_alloc ?_ _)); exact BKz2.out⟩, ⟨by (with_reducible repeat (first | refine blk_drewN ?_ _ | refine blk_drew ?_ | refine blk_alloc ?_ _)); apply bp2; (with_reducible repeat (first | refine blk_drewN ?_ _ | refine blk_drew ?_ | refine blk_alloc ?_ _)); exact BKz24.out⟩, ⟨by repeat first | (with_reducible first | exact HB.out | apply ba | apply bn | apply bd | refine bs (by assumption) ?_) | exact HB.out⟩⟩
 replace c38 := Bool.eq_false_iff.mpr c38
 subst c38
 have H1 : (if (xz25001_2.length : Int) ≥ 3000 then ((columbariumref14_Own.f l0_0 l0_1).bind fun btz35 => (some (btz35.1, btz35.2, 2))) else (if xz25001_2.length < 4398046511104 then (columbariumref14_Do.l1 k2 l1 (wrap64 (x8_2 + 1)) l0_0 l0_1 xz25000_2 (xz25001_2 ++ [(⟨false, (rd_T24 l1 x8_2).f1, (rd_T24 l1 x8_2).f2⟩ : S24)])) else (none))) = some (r1, r2, r3) := by rw [if_neg (show ¬ (false = true) by decide)] at H; exact H
 clear H
 have H := H1
 clear H1
 by_cases c51 : (xz25001_2.length : Int) ≥ 3000
 ·rw [if_pos c51] at H
  have c51b0 : decide (3000 ≤ (xz25001_2.length : Int)) = true := decide_eq_true c51
  have c51b1 : decide (3000 ≤ xz25001_2.length) = true := decide_eq_true (by omega)
  clear c51
  replace H := ob_ H
  obtain ⟨⟨tz35, tz38⟩, A520, H⟩ := H
  replace H : (some (tz35, tz38, 2)) = some (r1, r2, r3) := H
  have A52 := Aside0.mk A520
  clear A520
  simp only [Option.some.injEq, Prod.mk.injEq] at H
  obtain ⟨rfl, rfl, rfl⟩ := H
  have pz25 : 0 ≤ (x8_2 : Int) := of_decide_eq_true (by first | (with_reducible assumption) | assumption)
  have qz25 : x8_2 < (l1.length : Int) := of_decide_eq_true (by first | (with_reducible assumption) | assumption)
  obtain ⟨adz25, ez25, hxz25_0, hxz25_1, hxz25_2⟩ := at_T24 HR1.out x8_2 pz25 qz25
  (try rw [← Nbq37.out] at hxz25_0); (try rw [← Nbq37.out] at hwz25_0)
  cases ez25
  replace hxz25_0 := (HB.out.cell (World.block_lt_of_cell? w _ hxz25_0)).trans hxz25_0
  replace hxz25_1 := (HB.out.cell (World.block_lt_of_cell? w _ hxz25_1)).trans hxz25_1
  replace hxz25_2 := (HB.out.cell (World.block_lt_of_cell? w _ hxz25_2)).trans hxz25_2
  replace pz25 := eq_true pz25
  replace qz25 := eq_true qz25
  have hnb53 := NBz24_z1.out
  have hnc53 := NBz1_z24.out
  have hnb54 := NBz24_z2.out
  have hnc54 := NBz2_z24.out
  obtain ⟨hcz55_0, hcz55_1⟩ := bc2 BKz24
  obtain ⟨hfz55_0, hfz55_1⟩ := bf2 BKz24
  obtain ⟨Ao56, co56, eo56⟩ := Kd.R_slice HO_z25001.out
  subst eo56
  have hnb57 := NBz1_z2.out
  have hnc57 := NBz2_z1.out
  obtain ⟨hcz58_0, hcz58_1⟩ := bc2 BKz1
  obtain ⟨hfz58_0, hfz58_1⟩ := bf2 BKz1
  go_wp2_with (first | ((with_reducible refine gate_callee (f := 19) rfl ?_); refine goesL_ (some 55) rfl rfl Try.func19 (by kernel_rfl) rfl #[.agg #[.slice A0_0 l0_0.length c0_0, .slice A0_1 l0_1.length c0_1]] rfl (by (try simp only [List.map_toArray, List.map_cons, List.map_nil]) <;> rfl) ?_; (with_reducible refine (columbariumref14_Own.calls _ _ l0_0 _ _ l0_1 tz35 tz38 _ ?side1 ?side2 ?side3 ?side4 A52.out).mono ?_); (case side1 => repeat (first | exact (Kd.C_below HR0_0.out HB.out) | (with_reducible refine Kd.C_alloc ?_ _) | (with_reducible refine Kd.C_drewN ?_ _) | (with_reducible refine Kd.C_drew ?_))); (case side2 => exact HC0_0.out); (case side3 => repeat (first | exact (Kd.C_below HR0_1.out HB.out) | (with_reducible refine Kd.C_alloc ?_ _) | (with_reducible refine Kd.C_drewN ?_ _) | (with_reducible refine Kd.C_drew ?_))); (case side4 => exact HC0_1.out); rintro e w59 ⟨vz36, vz39, rfl, ho0, ho1, hb⟩; refine ⟨_, rfl, ?_⟩; have n0_ := am (Kd.R_elder' (pr HO_z25000) (Kd.R_base ho0) hb); have n1_ := am (Kd.R_elder' (pr HO_z25001) (Kd.R_base ho1) hb); have n2_ := am (Kd.R_lower (Kd.R_new' ho0 (Kd.R_lt (pr HO_z25000))) (below_size (by repeat first | (with_reducible first | exact HB.out | apply ba | apply bn | apply bd | refine bs (by assumption) ?_) | exact HB.out))); have n3_ := am (Kd.R_lower (Kd.R_new' ho1 (Kd.R_lt (pr HO_z25001))) (below_size (by repeat first | (with_reducible first | exact HB.out | apply ba | apply bn | apply bd | refine bs (by assumption) ?_) | exact HB.out))); have n4_ := am (blk_below (pk BKz1) hb); have n5_ := am (blk_below (pk BKz2) hb); have n6_ := am (blk_below (pk BKz24) hb); have n7_ := am (below_step (by repeat first | (with_reducible first | exact HB.out | apply ba | apply bn | apply bd | refine bs (by assumption) ?_) | exact HB.out) hb); clear HO_z25000; clear HO_z25001; clear BKz1; clear BKz2; clear BKz24; clear HB; have HO_z25000 := n0_; have HO_z25001 := n1_; have HOz37 := n2_; have HOz40 := n3_; have BKz1 := n4_; have BKz2 := n5_; have BKz24 := n6_; have HB := n7_; clear n0_ n1_ n2_ n3_ n4_ n5_ n6_ n7_; obtain ⟨Ao60, co60, eo60⟩ := Kd.R_slice HOz37.out; subst eo60; obtain ⟨hcz61_0, hcz61_1⟩ := bc2 BKz2; obtain ⟨hfz61_0, hfz61_1⟩ := bf2 BKz2; obtain ⟨Ao62, co62, eo62⟩ := Kd.R_slice HOz40.out; subst eo62))
  refine bodyPost_ret (results_ct rfl _ _ gbz2 30 #[.slice Ao60 tz35.length co60, .slice Ao62 tz38.length co62] (0, 0) _ rfl (by (with_reducible repeat (first | refine blk_drewN ?_ _ | refine blk_drew ?_ | refine blk_alloc ?_ _)); apply bp2; exact pk BKz2) Try.underlying30 rfl (by kernel_rfl)) rfl ?_
  exact ⟨_, _, by first | rfl | (simp <;> rfl) | (simp [*] <;> rfl), by (with_reducible repeat first | apply ra | apply rn | apply rd); exact Kd.R_mono (rf2 (Kd.R_types HOz37.out BKz2.out (by decide)) (fun _ hk => hk.2)) (fun _ hk => trivial), by (with_reducible repeat first | apply ra | apply rn | apply rd); exact Kd.R_mono (rf2 (Kd.R_types HOz40.out BKz2.out (by decide)) (fun _ hk => hk.2)) (fun _ hk => trivial), by repeat first | (with_reducible first | exact HB.out | apply ba | apply bn | apply bd | refine bs (by assumption) ?_) | exact HB.out⟩
 rw [if_neg c51] at H
 have c51b0 : decide (3000 ≤ (xz25001_2.length : Int)) = false := decide_eq_false c51
 have c51b1 : decide (3000 ≤ xz25001_2.length) = false := decide_eq_false (by omega)
 clear c51
 by_cases c63 : xz25001_2.length < 4398046511104
 rotate_left
 ·rw [if_neg c63] at H
  exact absurd H (by simp)
 rw [if_pos c63] at H
 have LMc63 := Aside0.mk c63
 clear c63
 obtain ⟨yz42, hyz42⟩ : ∃ y_ : List (S24), y_ = (xz25001_2 ++ [(⟨false, (rd_T24 l1 x8_2).f1, (rd_T24 l1 x8_2).f2⟩ : S24)]) := ⟨_, rfl⟩
 replace H : (columbariumref14_Do.l1 k2 l1 (wrap64 (x8_2 + 1)) l0_0 l0_1 xz25000_2 yz42) = some (r1, r2, r3) := by first | (rw [hyz42]; with_reducible exact H) | (have H2_ := (Option.bind_some _ _).symm.trans H; rw [hyz42]; with_reducible exact H2_) | (have H2_ := (Option.bind_some _ _).symm.trans H; with_reducible exact H2_) | with_reducible exact H | (rw [hyz42]; exact H) | exact H
 have Nyz42 := am hyz42
 clear hyz42
 have H' := am H
 clear H
 have pz25 : 0 ≤ (x8_2 : Int) := of_decide_eq_true (by first | (with_reducible assumption) | assumption)
 have qz25 : x8_2 < (l1.length : Int) := of_decide_eq_true (by first | (with_reducible assumption) | assumption)
 obtain ⟨adz25, ez25, hxz25_0, hxz25_1, hxz25_2⟩ := at_T24 HR1.out x8_2 pz25 qz25
 (try rw [← Nbq37.out] at hxz25_0); (try rw [← Nbq37.out] at hwz25_0)
 cases ez25
 replace hxz25_0 := (HB.out.cell (World.block_lt_of_cell? w _ hxz25_0)).trans hxz25_0
 replace hxz25_1 := (HB.out.cell (World.block_lt_of_cell? w _ hxz25_1)).trans hxz25_1
 replace hxz25_2 := (HB.out.cell (World.block_lt_of_cell? w _ hxz25_2)).trans hxz25_2
 replace pz25 := eq_true pz25
 replace qz25 := eq_true qz25
 have hnb64 := NBz24_z1.out
 have hnc64 := NBz1_z24.out
 have hnb65 := NBz24_z2.out
 have hnc65 := NBz2_z24.out
 obtain ⟨hcz66_0, hcz66_1⟩ := bc2 BKz24
 obtain ⟨hfz66_0, hfz66_1⟩ := bf2 BKz24
 obtain ⟨Ao67, co67, eo67⟩ := Kd.R_slice HO_z25001.out
 subst eo67
 try go_wp2
 have n0_ := am (Kd.R_drew HO_z25000.out)
 have n1_ := am (Kd.R_drew HO_z25001.out)
 have n2_ := am (blk_drew BKz1.out)
 have n3_ := am (blk_drew BKz2.out)
 have n4_ := am (blk_drew BKz24.out)
 have n5_ := am (below_drew1 HB.out)
 clear HO_z25000 HO_z25001 BKz1 BKz2 BKz24 HB; have HO_z25000 := n0_; have HO_z25001 := n1_; have BKz1 := n2_; have BKz2 := n3_; have BKz24 := n4_; have HB := n5_; clear n0_ n1_ n2_ n3_ n4_ n5_
 have pz41 : 0 ≤ (x8_2 : Int) := of_decide_eq_true (by first | (with_reducible assumption) | assumption)
 have qz41 : x8_2 < (l1.length : Int) := of_decide_eq_true (by first | (with_reducible assumption) | assumption)
 obtain ⟨adz41, ez41, hxz41_0, hxz41_1, hxz41_2⟩ := at_T24 HR1.out x8_2 pz41 qz41
 have hwz41_2 := hxz41_2
 have hwz41_1 := hxz41_1
 have hwz41_0 := hxz41_0
 (try rw [← Nbq37.out] at hxz41_0); (try rw [← Nbq37.out] at hwz41_0)
 obtain rfl : adz25 = adz41 := (by injection ez41)
 replace hxz41_0 := (HB.out.cell (World.block_lt_of_cell? w _ hxz41_0)).trans hxz41_0
 replace hxz41_1 := (HB.out.cell (World.block_lt_of_cell? w _ hxz41_1)).trans hxz41_1
 replace hxz41_2 := (HB.out.cell (World.block_lt_of_cell? w _ hxz41_2)).trans hxz41_2
 replace pz41 := eq_true pz41
 replace qz41 := eq_true qz41
 refine start_ (n := 10) (S := fun w' => w'.cell? ⟨gbz24, 0, none⟩ = some (uz25000) ∧ w'.cell? ⟨gbz24, 1, none⟩ = some (.slice Ao67 xz25001_2.length co67) ∧ w'.cell? (adz25.add ((x8_2).toNat * 3)) = some (.bool (false)) ∧ w'.cell? ⟨(adz25.add ((x8_2).toNat * 3)).block, (adz25.add ((x8_2).toNat * 3)).off + 1, none⟩ = some (.int .i64 ((rd_T24 l1 x8_2).f1)) ∧ w'.cell? ⟨(adz25.add ((x8_2).toNat * 3)).block, (adz25.add ((x8_2).toNat * 3)).off + 2, none⟩ = some (.string ((rd_T24 l1 x8_2).f2))) (ds := [9]) #[false, false, false, false, false, false, false, false, false, false] (by kernel_rfl) rfl rfl ⟨(blk_cell BKz24.out 0).trans rfl, (blk_cell BKz24.out 1).trans rfl, ((HB.out.cell (World.block_lt_of_cell? w _ hwz41_0)).trans hwz41_0), ((HB.out.cell (World.block_lt_of_cell? w _ hwz41_1)).trans hwz41_1), ((HB.out.cell (World.block_lt_of_cell? w _ hwz41_2)).trans hwz41_2)⟩ (fun hHeld => ?_); refine with_tabW columbariumref14_Do.tab16 columbariumref14_Do.bits16 (fun HT_ HW_ => ?_)
 generalize wr.drew = w68 at HO_z25000 HO_z25001 BKz1 BKz2 BKz24 HB hxz41_0 hxz41_1 hxz41_2 hHeld ⊢
 refine pu_ 0 (some 56) HT_ rfl rfl (.inl ⟨by rfl, by intro w'; go_simp; with_reducible rfl⟩) (by simp only [Act.put, sa_, s0_, s1_, i64_w, i32_w]; rfl) ?_
 refine pu_ 2 (some 58) HT_ rfl rfl (.inl ⟨by rfl, by intro w'; go_simp; with_reducible rfl⟩) (by simp only [Act.put, sa_, s0_, s1_, i64_w, i32_w]; rfl) ?_
 refine pu_ 3 (some 59) HT_ rfl rfl (.inl ⟨by rfl, by intro w'; go_simp; with_reducible rfl⟩) (by simp only [Act.put, sa_, s0_, s1_, i64_w, i32_w]; rfl) ?_
 refine pu_ 4 (some 60) HT_ rfl rfl (.inl ⟨by rfl, by intro w'; go_simp; with_reducible rfl⟩) (by simp only [Act.put, sa_, s0_, s1_, i64_w, i32_w]; rfl) ?_
 refine tk_ 1 (some 57) HT_ HW_ rfl rfl (.inl ⟨by rfl, by rintro w' ⟨s0, s1, s2, s3, s4⟩; go_simp; with_reducible rfl⟩) hHeld (by simp only [Act.put, sa_, s0_, s1_, i64_w, i32_w]; rfl) ?_
 refine tk_ 5 (some 61) HT_ HW_ rfl rfl (.inl ⟨by rfl, by rintro w' ⟨s0, s1, s2, s3, s4⟩; go_simp; with_reducible rfl⟩) hHeld (by simp only [Act.put, sa_, s0_, s1_, i64_w, i32_w]; rfl) ?_
 refine on_ 6 (some 62) HT_ rfl rfl (fun K hK => ?_)
 refine value_ (w1 := ?_) (v := ?_) (by rfl) rfl ?_ ?_
 rotate_left 2
 ·go_simp
  constructor
  rotate_left
  ·rfl
  rfl
 refine hK.out _ _ ⟨(blk_cell (blk_alloc BKz24.out _) 0).trans rfl, (blk_cell (blk_alloc BKz24.out _) 1).trans rfl, (World.cell?_alloc_lt _ _ _ (World.block_lt_of_cell? _ _ (((HB.out.cell (World.block_lt_of_cell? w _ hwz41_0)).trans hwz41_0)))).trans (((HB.out.cell (World.block_lt_of_cell? w _ hwz41_0)).trans hwz41_0)), (World.cell?_alloc_lt _ _ _ (World.block_lt_of_cell? _ _ (((HB.out.cell (World.block_lt_of_cell? w _ hwz41_1)).trans hwz41_1)))).trans (((HB.out.cell (World.block_lt_of_cell? w _ hwz41_1)).trans hwz41_1)), (World.cell?_alloc_lt _ _ _ (World.block_lt_of_cell? _ _ (((HB.out.cell (World.block_lt_of_cell? w _ hwz41_2)).trans hwz41_2)))).trans (((HB.out.cell (World.block_lt_of_cell? w _ hwz41_2)).trans hwz41_2))⟩ (fun hHeld => ?_)
 clear hK K
 refine norm_ (by show Act.put _ (some 62) _ = _; simp only [Act.put, sa_, s0_, s1_, i64_w, i32_w]; rfl) ?_
 refine on_ 7 (some 63) HT_ rfl rfl (fun K hK => ?_)
 refine Kd.R_append_step k24 (w0 := w) w.heap.size (by rfl) (.tmp 57) (.tmp 62) 28 24 (.agg #[(.bool false), (.int .i64 0), (.string ⟨#[]⟩)]) 32 rfl Try.underlying28 info24 rfl (by decide) (by omega) (.slice Ao67 xz25001_2.length co67) xz25001_2 (⟨false, (rd_T24 l1 x8_2).f1, (rd_T24 l1 x8_2).f2⟩ : S24) [.bool false, .int .i64 ((rd_T24 l1 x8_2).f1), .string ((rd_T24 l1 x8_2).f2)] (fun _ => True) (fun _ => False) rfl rfl ?aP (fun _ hk => hk.elim) ?aF ?aO ?aB ?aS ?aL ?_
 (case aP => exact k24_mkM _ _ _ (⟨false, (rd_T24 l1 x8_2).f1, (rd_T24 l1 x8_2).f2⟩ : S24))
 (case aB => exact (by repeat first | (with_reducible first | exact HB.out | apply ba | apply bn | apply bd | refine bs (by assumption) ?_) | exact HB.out))
 (case aF => exact (fun _ _ => trivial))
 (case aO => exact (pr HO_z25001))
 (case aS => exact (below_size (by repeat first | (with_reducible first | exact HB.out | apply ba | apply bn | apply bd | refine bs (by assumption) ?_) | exact HB.out)))
 (case aL => have := LMc63.out; omega)
 intro vz43 w69 ho hb hg hat
 rw [← Nyz42.out] at ho
 have n0_ := am (Kd.R_over' (pr HO_z25000) (Kd.R_typed (pr HO_z25001)) (by decide) hg)
 have n1_ := am (blk_grown (pk BKz1) hg (Kd.R_ne HO_z25001.out BKz1.out (by decide)))
 have n2_ := am (blk_grown (pk BKz2) hg (Kd.R_ne HO_z25001.out BKz2.out (by decide)))
 have n3_ := am (blk_grown (pk BKz24) hg (Kd.R_ne HO_z25001.out BKz24.out (by decide)))
 have n4_ := am (hb)
 have n5_ := am (ho)
 clear HO_z25000 BKz1 BKz2 BKz24 HB HO_z25001; have HO_z25000 := n0_; have BKz1 := n1_; have BKz2 := n2_; have BKz24 := n3_; have HB := n4_; have HOz44 := n5_; clear n0_ n1_ n2_ n3_ n4_ n5_; clear ho hb hg hat
 obtain ⟨Ao70, co70, eo70⟩ := Kd.R_slice HOz44.out
 (first | subst eo70 | (injection eo70 with f1_ f2_ f3_; have f4_ := f1_.symm; have f5_ := f3_.symm; clear f1_ f2_ f3_; subst f4_; subst f5_))
 refine hK.out _ _ ⟨(blk_cell BKz24.out 0).trans rfl, (blk_cell BKz24.out 1).trans rfl, ((HB.out.cell (World.block_lt_of_cell? w _ hwz41_0)).trans hwz41_0), ((HB.out.cell (World.block_lt_of_cell? w _ hwz41_1)).trans hwz41_1), ((HB.out.cell (World.block_lt_of_cell? w _ hwz41_2)).trans hwz41_2)⟩ (fun hHeld => ?_)
 clear hK K
 refine norm_ (by show Act.put _ (some 63) _ = _; simp only [Act.put, sa_, s0_, s1_, i64_w, i32_w]; rfl) ?_
 refine pu_ 8 (some 64) HT_ rfl rfl (.inl ⟨by rfl, by intro w'; go_simp; with_reducible rfl⟩) (by simp only [Act.put, sa_, s0_, s1_, i64_w, i32_w]; rfl) ?_
 refine la_ 9 none HT_ rfl rfl (fun K hK => ?_)
 have hs71 : w69.cell? ⟨gbz24, 1, none⟩ = some (.slice Ao67 xz25001_2.length co67) := (blk_cell BKz24.out 1).trans rfl
 have hfs71 := blk_frozen BKz24.out 1
 have := NBz1_z24.out
 have := NBz2_z24.out
 have := NBz24_z1.out
 have := NBz24_z2.out
 refine skip_ (by rfl) rfl (by go_simp; rfl) ?_
 refine hK.out _ _ ?_
 clear hK K
 refine done_ (done_of HT_.out (by kernel_rfl)) ?_
 try go_wp2
 go_roundg k2
 case measure => have := HK1.out; have := HK2.out; omega
 case rel => exact ⟨(wrap64 (x8_2 + 1)), (xz25000_2), (yz42), (uz25000), (.slice Ao70 yz42.length co70), (by first | rfl | (simp; done) | (simp [*]; done)), H', ⟨by have := HK1.out; have := HK2.out; omega⟩, ⟨by (with_reducible repeat first | apply ra | apply rn | apply rd); exact Kd.R_mono (Kd.R_far (p := ⟨gbz24, 1, none⟩) (Kd.R_types HO_z25000.out BKz24.out (by decide)) (fun _ hk => hk.2) (.slice Ao70 yz42.length co70)) (fun _ hk => trivial)⟩, ⟨by (with_reducible repeat first | apply ra | apply rn | apply rd); exact Kd.R_mono (Kd.R_far (p := ⟨gbz24, 1, none⟩) (Kd.R_types HOz44.out BKz24.out (by decide)) (fun _ hk => hk.2) (.slice Ao70 yz42.length co70)) (fun _ hk => trivial)⟩, ⟨by (with_reducible repeat (first | refine blk_drewN ?_ _ | refine blk_drew ?_ | refine blk_alloc ?_ _)); refine blk_far ?_ NBz1_z24.out _; (with_reducible repeat (first | refine blk_drewN ?_ _ | refine blk_drew ?_ | refine blk_alloc ?_ _)); exact BKz1.out⟩, ⟨by (with_reducible repeat (first | refine blk_drewN ?_ _ | refine blk_drew ?_ | refine blk_alloc ?_ _)); refine blk_far ?_ NBz2_z24.out _; (with_reducible repeat (first | refine blk_drewN ?_ _ | refine blk_drew ?_ | refine blk_alloc ?_ _)); exact BKz2.out⟩, ⟨by (with_reducible repeat (first | refine blk_drewN ?_ _ | refine blk_drew ?_ | refine blk_alloc ?_ _)); refine blk_put (cs := #[uz25000, .slice Ao67 xz25001_2.length co67]) ?_ 1 _ rfl; (with_reducible repeat (first | refine blk_drewN ?_ _ | refine blk_drew ?_ | refine blk_alloc ?_ _)); exact BKz24.out⟩, ⟨by repeat first | (with_reducible first | exact HB.out | apply ba | apply bn | apply bd | refine bs (by assumption) ?_) | exact HB.out⟩⟩

end Go.Proofs.Ytcfinlmocgbnbaa.Pr
