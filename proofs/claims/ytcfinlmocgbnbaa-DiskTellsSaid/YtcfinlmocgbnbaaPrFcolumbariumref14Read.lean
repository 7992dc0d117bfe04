-- Written by wip/tools/xprint.py, a patched run of the kit's print: not typed by hand.
import Derived.Test.YtcfinlmocgbnbaaXSq
import Derived.Test.YtcfinlmocgbnbaaPr0
import Derived.Test.YtcfinlmocgbnbaaPrFcolumbariumref14Right
namespace Go.Proofs.Ytcfinlmocgbnbaa.Pr
open Go.Proofs.Ytcfinlmocgbnbaa.Sq Go.RowKit Go.Proofs.YtcfinlmocgbnbaaW.PrintWords Go.Proofs.YtcfinlmocgbnbaaW.PrintLast Go.Proofs.YtcfinlmocgbnbaaW.PrintMore
attribute [local go_sem] max2_int min2_int max_two min_two max_three min_three max_four min_four   -- for this text's walks alone
set_option linter.unusedVariables false
set_option linter.unusedSimpArgs false

/-! ### columbariumref14_Read: function 23 -/
mutual
def columbariumref14_Read.j0 : Nat → Int → Bool → List ByteArray → List (S24) → Option (ByteArray × Int)
 | 0, _, _, _, _ => none
 | k + 1, x1, x21, xz2000, xz2001 => if x21 = true then (some ((⟨#[]⟩ : ByteArray), 1)) else (if 0 ≤ x1 then (if x1 < (xz2000.length : Int) then (columbariumref14_Read.l0 k x1 (rdOf ByteArray.empty xz2000 x1) 0 xz2000 xz2001) else (none)) else (none))
def columbariumref14_Read.l0 : Nat → Int → ByteArray → Int → List ByteArray → List (S24) → Option (ByteArray × Int)
 | 0, _, _, _, _, _ => none
 | k + 1, x1, x6, x7, xz2000, xz2001 => if x7 < (xz2001.length : Int) then (if 0 ≤ x7 then (if ((rd_T24 xz2001 x7).f1) = x1 then (columbariumref14_Read.l0 k x1 ((rd_T24 xz2001 x7).f2) (wrap64 (x7 + 1)) xz2000 xz2001) else (columbariumref14_Read.l0 k x1 x6 (wrap64 (x7 + 1)) xz2000 xz2001)) else (none)) else (some (x6, 0))
end
def columbariumref14_Read.f (k : Nat) (l0_0 : List ByteArray) (l0_1 : List (S24)) (a1 : Int) : Option (ByteArray × Int) := (columbariumref14_Right.f k l0_0 l0_1).bind fun tz2 => (if tz2 = true then (if a1 < 0 then (columbariumref14_Read.j0 k a1 true l0_0 l0_1) else (columbariumref14_Read.j0 k a1 (decide (a1 ≥ (l0_0.length : Int))) l0_0 l0_1)) else (columbariumref14_Read.j0 k a1 true l0_0 l0_1))
theorem columbariumref14_Read.mono_l : ∀ k, (∀ y0 y1 y2 y3, LeO (columbariumref14_Read.j0 k y0 y1 y2 y3) (columbariumref14_Read.j0 (k + 1) y0 y1 y2 y3)) ∧ (∀ y0 y1 y2 y3 y4, LeO (columbariumref14_Read.l0 k y0 y1 y2 y3 y4) (columbariumref14_Read.l0 (k + 1) y0 y1 y2 y3 y4))
 | 0 => ⟨fun _ _ _ _ r h => by simp [columbariumref14_Read.j0] at h, fun _ _ _ _ _ r h => by simp [columbariumref14_Read.l0] at h⟩
 | k + 1 => by
  obtain ⟨ih0, ih1⟩ := columbariumref14_Read.mono_l k
  refine ⟨?_, ?_⟩
  ·intro y0 y1 y2 y3
   unfold columbariumref14_Read.j0
   repeat' first
   | (with_reducible exact ih0 _ _ _ _)
   | (with_reducible exact ih1 _ _ _ _ _)
   | (with_reducible exact columbariumref14_Right.mono _ _ _)
   | (with_reducible exact LeO.refl _)
   | (with_reducible exact LeO.none _)
   | (with_reducible refine LeO.ite ?_ ?_)
   | (with_reducible refine LeO.bind ?_ (fun _ => ?_))
   | exact ih0 _ _ _ _
   | exact ih1 _ _ _ _ _
   | exact columbariumref14_Right.mono _ _ _
   | exact LeO.none _
   | refine LeO.ite ?_ ?_
   | refine LeO.bind ?_ (fun _ => ?_)
  ·intro y0 y1 y2 y3 y4
   unfold columbariumref14_Read.l0
   repeat' first
   | (with_reducible exact ih0 _ _ _ _)
   | (with_reducible exact ih1 _ _ _ _ _)
   | (with_reducible exact columbariumref14_Right.mono _ _ _)
   | (with_reducible exact LeO.refl _)
   | (with_reducible exact LeO.none _)
   | (with_reducible refine LeO.ite ?_ ?_)
   | (with_reducible refine LeO.bind ?_ (fun _ => ?_))
   | exact ih0 _ _ _ _
   | exact ih1 _ _ _ _ _
   | exact columbariumref14_Right.mono _ _ _
   | exact LeO.none _
   | refine LeO.ite ?_ ?_
   | refine LeO.bind ?_ (fun _ => ?_)
theorem columbariumref14_Read.mono : ∀ a0 a1 a2 k, LeO (columbariumref14_Read.f k a0 a1 a2) (columbariumref14_Read.f (k + 1) a0 a1 a2) := by
 intro a0 a1 a2 k
 obtain ⟨ih0, ih1⟩ := columbariumref14_Read.mono_l k
 unfold columbariumref14_Read.f
 repeat' first
  | (with_reducible exact ih0 _ _ _ _)
  | (with_reducible exact ih1 _ _ _ _ _)
  | (with_reducible exact columbariumref14_Right.mono _ _ _)
  | (with_reducible exact LeO.refl _)
  | (with_reducible exact LeO.none _)
  | (with_reducible refine LeO.ite ?_ ?_)
  | (with_reducible refine LeO.bind ?_ (fun _ => ?_))
  | exact ih0 _ _ _ _
  | exact ih1 _ _ _ _ _
  | exact columbariumref14_Right.mono _ _ _
  | exact LeO.none _
  | refine LeO.ite ?_ ?_
  | refine LeO.bind ?_ (fun _ => ?_)
set_option maxHeartbeats 8000000 in
set_option maxRecDepth 100000 in
theorem columbariumref14_Read.calls (k : Nat) (A0_0 : Option Addr) (c0_0 : Nat) (l0_0 : List ByteArray) (A0_1 : Option Addr) (c0_1 : Nat) (l0_1 : List (S24)) (a1 : Int) (r1 : ByteArray) (r2 : Int) (w : World) (hr0_0 : Kd.C Kd.string w A0_0 l0_0.length l0_0) (hc0_0 : l0_0.length ≤ c0_0) (hr0_1 : Kd.C k24 w A0_1 l0_1.length l0_1) (hc0_1 : l0_1.length ≤ c0_1) (h : columbariumref14_Read.f k l0_0 l0_1 a1 = some (r1, r2)) :
  Calls Try.prog 23 #[.agg #[.slice A0_0 l0_0.length c0_0, .slice A0_1 l0_1.length c0_1], .int .i64 a1] w fun e w' => e = .returned (.tuple #[.string r1, .int .i64 r2]) ∧ Below w.heap.size w w' := by
 have hu30 := Try.underlying30
 have HR0_0 := am hr0_0
 have HC0_0 := am hc0_0
 clear hr0_0 hc0_0
 have HR0_1 := am hr0_1
 have HC0_1 := am hc0_1
 clear hr0_1 hc0_1
 have HB := am (Below.refl w.heap.size w)
 have H : ((columbariumref14_Right.f k l0_0 l0_1).bind fun tz2 => (if tz2 = true then (if a1 < 0 then (columbariumref14_Read.j0 k a1 true l0_0 l0_1) else (columbariumref14_Read.j0 k a1 (decide (a1 ≥ (l0_0.length : Int))) l0_0 l0_1)) else (columbariumref14_Read.j0 k a1 true l0_0 l0_1))) = some (r1, r2) := h
 clear h
 have HC3 := am H
 clear H
 go_enter Try.func23, Try.ntmps23
 go_upto_region 1 with (first | ((with_reducible refine gate_dst (N := 2) rfl ?_); (try (refine gate_guard (by rfl) ?_; dsimp only)); refine box_event ?hg (N := 2) ?hd (cs := #[.slice A0_0 l0_0.length c0_0, .slice A0_1 l0_1.length c0_1]) (t := 30) ?hr ?_; (case hd => rfl); (case hg => rfl); (case hr => first | (go_simp; done) | (go_simp; rfl)); intro gbz1 hg w4 hbox hb; have n0_ := am (below_step (pb HB) hb); have n1_ := am (hbox); have n2_ := ge_ hg (pb HB); have n3_ := ge_ hg (pb HB); clear HB; have HB := n0_; have BKz1 := n1_; have GWz1 := n2_; have GEz1 := n3_; clear n0_ n1_ n2_ n3_; clear hb hbox hg))
 (try simp only [Act.put, List.setIfInBounds_toArray, List.set_cons_zero, List.set_cons_succ])
 go_cut [21] (fun v21 wc => ∃ (kq : Nat) (x21_2 : Bool), v21 = .bool x21_2 ∧ Aside0 (columbariumref14_Read.j0 kq a1 x21_2 l0_0 l0_1 = some (r1, r2)) ∧ Aside0 (kq ≤ k) ∧ Aside0 (wc.heap[gbz1]? = some (.cells #[(.slice A0_0 l0_0.length c0_0), (.slice A0_1 l0_1.length c0_1)] 30 (0, 0))) ∧ Aside0 (Below w.heap.size w wc))
 case first =>
  have H := HC3.out
  clear HC3
  replace H := ob_ H
  obtain ⟨tz2, A50, H⟩ := H
  replace H : (if tz2 = true then (if a1 < 0 then (columbariumref14_Read.j0 k a1 true l0_0 l0_1) else (columbariumref14_Read.j0 k a1 (decide (a1 ≥ (l0_0.length : Int))) l0_0 l0_1)) else (columbariumref14_Read.j0 k a1 true l0_0 l0_1)) = some (r1, r2) := H
  have A5 := Aside0.mk A50
  clear A50
  by_cases c6 : tz2 = true
  rotate_left
  ·replace c6 := Bool.eq_false_iff.mpr c6
   subst c6
   have H1 : (columbariumref14_Read.j0 k a1 true l0_0 l0_1) = some (r1, r2) := by rw [if_neg (show ¬ (false = true) by decide)] at H; exact H
   clear H
   have H := H1
   clear H1
   have H' := am H
   clear H
   obtain ⟨hcz13_0, hcz13_1⟩ := bc2 BKz1
   obtain ⟨hfz13_0, hfz13_1⟩ := bf2 BKz1
   go_wp2_with (first | ((with_reducible refine gate_callee (f := 21) rfl ?_); refine goesL_ (some 9) rfl rfl Try.func21 (by kernel_rfl) rfl #[.agg #[.slice A0_0 l0_0.length c0_0, .slice A0_1 l0_1.length c0_1]] rfl (by (try simp only [List.map_toArray, List.map_cons, List.map_nil]) <;> rfl) ?_; (with_reducible refine (columbariumref14_Right.calls k _ _ l0_0 _ _ l0_1 false _ ?side1 ?side2 ?side3 ?side4 A5.out).mono ?_); (case side1 => repeat (first | exact (Kd.C_below HR0_0.out HB.out) | (with_reducible refine Kd.C_alloc ?_ _) | (with_reducible refine Kd.C_drewN ?_ _) | (with_reducible refine Kd.C_drew ?_))); (case side2 => exact HC0_0.out); (case side3 => repeat (first | exact (Kd.C_below HR0_1.out HB.out) | (with_reducible refine Kd.C_alloc ?_ _) | (with_reducible refine Kd.C_drewN ?_ _) | (with_reducible refine Kd.C_drew ?_))); (case side4 => exact HC0_1.out); rintro e w14 ⟨rfl, hb⟩; refine ⟨_, rfl, ?_⟩; have n0_ := am (blk_below (pk BKz1) hb); have n1_ := am (below_step (by repeat first | (with_reducible first | exact HB.out | apply ba | apply bn | apply bd | refine bs (by assumption) ?_) | exact HB.out) hb); clear BKz1; clear HB; have BKz1 := n0_; have HB := n1_; clear n0_ n1_; (try clear hi)))
   go_meet
   case rel => exact ⟨_, (true), (by first | rfl | (simp; done) | (simp [*]; done)), H', ⟨by first | omega | exact Nat.le_refl _⟩, ⟨by (with_reducible repeat (first | refine blk_drewN ?_ _ | refine blk_drew ?_ | refine blk_alloc ?_ _)); exact BKz1.out⟩, ⟨by repeat first | (with_reducible first | exact HB.out | apply ba | apply bn | apply bd | refine bs (by assumption) ?_) | exact HB.out⟩⟩
  subst c6
  have H1 : (if a1 < 0 then (columbariumref14_Read.j0 k a1 true l0_0 l0_1) else (columbariumref14_Read.j0 k a1 (decide (a1 ≥ (l0_0.length : Int))) l0_0 l0_1)) = some (r1, r2) := by rw [if_pos rfl] at H; exact H
  clear H
  have H := H1
  clear H1
  by_cases c7 : a1 < 0
  ·rw [if_pos c7] at H
   have c7b0 : decide (a1 < 0) = true := decide_eq_true c7
   clear c7
   (first | rw [c7b0] | rw [c7b1] | (simp only [i64_w, i32_w]; rw [c7b0]) | skip)
   have H' := am H
   clear H
   obtain ⟨hcz8_0, hcz8_1⟩ := bc2 BKz1
   obtain ⟨hfz8_0, hfz8_1⟩ := bf2 BKz1
   go_wp2_with (first | ((with_reducible refine gate_callee (f := 21) rfl ?_); refine goesL_ (some 9) rfl rfl Try.func21 (by kernel_rfl) rfl #[.agg #[.slice A0_0 l0_0.length c0_0, .slice A0_1 l0_1.length c0_1]] rfl (by (try simp only [List.map_toArray, List.map_cons, List.map_nil]) <;> rfl) ?_; (with_reducible refine (columbariumref14_Right.calls k _ _ l0_0 _ _ l0_1 true _ ?side1 ?side2 ?side3 ?side4 A5.out).mono ?_); (case side1 => repeat (first | exact (Kd.C_below HR0_0.out HB.out) | (with_reducible refine Kd.C_alloc ?_ _) | (with_reducible refine Kd.C_drewN ?_ _) | (with_reducible refine Kd.C_drew ?_))); (case side2 => exact HC0_0.out); (case side3 => repeat (first | exact (Kd.C_below HR0_1.out HB.out) | (with_reducible refine Kd.C_alloc ?_ _) | (with_reducible refine Kd.C_drewN ?_ _) | (with_reducible refine Kd.C_drew ?_))); (case side4 => exact HC0_1.out); rintro e w9 ⟨rfl, hb⟩; refine ⟨_, rfl, ?_⟩; have n0_ := am (blk_below (pk BKz1) hb); have n1_ := am (below_step (by repeat first | (with_reducible first | exact HB.out | apply ba | apply bn | apply bd | refine bs (by assumption) ?_) | exact HB.out) hb); clear BKz1; clear HB; have BKz1 := n0_; have HB := n1_; clear n0_ n1_; (try clear hi)))
   go_meet
   case rel => exact ⟨_, (true), (by first | rfl | (simp; done) | (simp [*]; done)), H', ⟨by first | omega | exact Nat.le_refl _⟩, ⟨by (with_reducible repeat (first | refine blk_drewN ?_ _ | refine blk_drew ?_ | refine blk_alloc ?_ _)); exact BKz1.out⟩, ⟨by repeat first | (with_reducible first | exact HB.out | apply ba | apply bn | apply bd | refine bs (by assumption) ?_) | exact HB.out⟩⟩
  rw [if_neg c7] at H
  have c7b0 : decide (a1 < 0) = false := decide_eq_false c7
  clear c7
  (first | rw [c7b0] | rw [c7b1] | (simp only [i64_w, i32_w]; rw [c7b0]) | skip)
  have H' := am H
  clear H
  obtain ⟨hcz10_0, hcz10_1⟩ := bc2 BKz1
  obtain ⟨hfz10_0, hfz10_1⟩ := bf2 BKz1
  go_wp2_with (first | ((with_reducible refine gate_callee (f := 21) rfl ?_); refine goesL_ (some 9) rfl rfl Try.func21 (by kernel_rfl) rfl #[.agg #[.slice A0_0 l0_0.length c0_0, .slice A0_1 l0_1.length c0_1]] rfl (by (try simp only [List.map_toArray, List.map_cons, List.map_nil]) <;> rfl) ?_; (with_reducible refine (columbariumref14_Right.calls k _ _ l0_0 _ _ l0_1 true _ ?side1 ?side2 ?side3 ?side4 A5.out).mono ?_); (case side1 => repeat (first | exact (Kd.C_below HR0_0.out HB.out) | (with_reducible refine Kd.C_alloc ?_ _) | (with_reducible refine Kd.C_drewN ?_ _) | (with_reducible refine Kd.C_drew ?_))); (case side2 => exact HC0_0.out); (case side3 => repeat (first | exact (Kd.C_below HR0_1.out HB.out) | (with_reducible refine Kd.C_alloc ?_ _) | (with_reducible refine Kd.C_drewN ?_ _) | (with_reducible refine Kd.C_drew ?_))); (case side4 => exact HC0_1.out); rintro e w11 ⟨rfl, hb⟩; refine ⟨_, rfl, ?_⟩; have n0_ := am (blk_below (pk BKz1) hb); have n1_ := am (below_step (by repeat first | (with_reducible first | exact HB.out | apply ba | apply bn | apply bd | refine bs (by assumption) ?_) | exact HB.out) hb); clear BKz1; clear HB; have BKz1 := n0_; have HB := n1_; clear n0_ n1_; obtain ⟨hcz12_0, hcz12_1⟩ := bc2 BKz1; obtain ⟨hfz12_0, hfz12_1⟩ := bf2 BKz1))
  go_meet
  case rel => exact ⟨_, (decide (a1 ≥ (l0_0.length : Int))), (by first | rfl | (simp; done) | (simp [*]; done)), H', ⟨by first | omega | exact Nat.le_refl _⟩, ⟨by (with_reducible repeat (first | refine blk_drewN ?_ _ | refine blk_drew ?_ | refine blk_alloc ?_ _)); exact BKz1.out⟩, ⟨by repeat first | (with_reducible first | exact HB.out | apply ba | apply bn | apply bd | refine bs (by assumption) ?_) | exact HB.out⟩⟩
 clear HC3
 try clear c2
 try clear p2
 try clear c6
 try clear c7
 try clear c7b0
 try clear c7b1
 try clear hcz10_0
 try clear hcz10_1
 try clear hcz12_0
 try clear hcz12_1
 try clear hcz13_0
 try clear hcz13_1
 try clear hcz8_0
 try clear hcz8_1
 try clear hfz10_0
 try clear hfz10_1
 try clear hfz12_0
 try clear hfz12_1
 try clear hfz13_0
 try clear hfz13_1
 try clear hfz8_0
 try clear hfz8_1
 obtain ⟨kq, x21_2, rfl, HA, HJ2, BKz1, HB⟩ := hcut
 cases kq with
 | zero => exact absurd HA.out (by simp [columbariumref14_Read.j0])
 | succ kj2 => ?_
 have H := HA.out
 clear HA
 simp only [columbariumref14_Read.j0] at H
 by_cases c15 : x21_2 = true
 ·subst c15
  have H1 : (some ((⟨#[]⟩ : ByteArray), 1)) = some (r1, r2) := by rw [if_pos rfl] at H; exact H
  clear H
  have H := H1
  clear H1
  simp only [Option.some.injEq, Prod.mk.injEq] at H
  obtain ⟨rfl, rfl⟩ := H
  go_wp2
  go_ret2
  exact ⟨by first | rfl | (simp <;> rfl) | (simp [*] <;> rfl), by repeat first | (with_reducible first | exact HB.out | apply ba | apply bn | apply bd | refine bs (by assumption) ?_) | exact HB.out⟩
 replace c15 := Bool.eq_false_iff.mpr c15
 subst c15
 have H1 : (if 0 ≤ a1 then (if a1 < (l0_0.length : Int) then (columbariumref14_Read.l0 kj2 a1 (rdOf ByteArray.empty l0_0 a1) 0 l0_0 l0_1) else (none)) else (none)) = some (r1, r2) := by rw [if_neg (show ¬ (false = true) by decide)] at H; exact H
 clear H
 have H := H1
 clear H1
 by_cases c16 : 0 ≤ a1
 rotate_left
 ·rw [if_neg c16] at H
  exact absurd H (by simp)
 rw [if_pos c16] at H
 have c16b0 : decide (0 ≤ a1) = true := decide_eq_true c16
 clear c16
 by_cases c17 : a1 < (l0_0.length : Int)
 rotate_left
 ·rw [if_neg c17] at H
  exact absurd H (by simp)
 rw [if_pos c17] at H
 have c17b0 : decide (a1 < (l0_0.length : Int)) = true := decide_eq_true c17
 clear c17
 have H' := am H
 clear H
 obtain ⟨hcz18_0, hcz18_1⟩ := bc2 BKz1
 obtain ⟨hfz18_0, hfz18_1⟩ := bf2 BKz1
 have pz3 : 0 ≤ (a1 : Int) := of_decide_eq_true (by first | (with_reducible assumption) | assumption)
 have qz3 : a1 < (l0_0.length : Int) := of_decide_eq_true (by first | (with_reducible assumption) | assumption)
 obtain ⟨adz3, ez3, hxz3_0⟩ := Kd.at_string HR0_0.out a1 pz3 qz3
 cases ez3
 replace hxz3_0 := (HB.out.cell (World.block_lt_of_cell? w _ hxz3_0)).trans hxz3_0
 replace pz3 := eq_true pz3
 replace qz3 := eq_true qz3
 go_wp2
 go_loopg [6, 7] kj2 (fun kq v6 v7 w' => ∃ (x6_2 : ByteArray) (x7_2 : Int), v6 = .string x6_2 ∧ v7 = .int .i64 x7_2 ∧ Aside0 (columbariumref14_Read.l0 kq a1 x6_2 x7_2 l0_0 l0_1 = some (r1, r2)) ∧ Aside0 (kq ≤ kj2) ∧ Aside0 (w'.heap[gbz1]? = some (.cells #[(.slice (some adz3) l0_0.length c0_0), (.slice A0_1 l0_1.length c0_1)] 30 (0, 0))) ∧ Aside0 (Below w.heap.size w w'))
 case atStart => exact ⟨(rdOf ByteArray.empty l0_0 a1), (0), (by first | rfl | (simp; done) | (simp [*]; done)), (by first | rfl | (simp; done) | (simp [*]; done)), H', ⟨Nat.le_refl _⟩, ⟨by (with_reducible repeat (first | refine blk_drewN ?_ _ | refine blk_drew ?_ | refine blk_alloc ?_ _)); exact BKz1.out⟩, ⟨by repeat first | (with_reducible first | exact HB.out | apply ba | apply bn | apply bd | refine bs (by assumption) ?_) | exact HB.out⟩⟩
 clear H'
 try clear c1
 try clear c2
 try clear p2
 try clear q2
 try clear hx2
 try clear c6
 try clear c7
 try clear c7b0
 try clear c7b1
 try clear c15
 try clear c16
 try clear c16b0
 try clear c17
 try clear c17b0
 try clear hcz10_0
 try clear hcz10_1
 try clear hcz12_0
 try clear hcz12_1
 try clear hcz13_0
 try clear hcz13_1
 try clear hcz18_0
 try clear hcz18_1
 try clear hcz8_0
 try clear hcz8_1
 try clear hfz10_0
 try clear hfz10_1
 try clear hfz12_0
 try clear hfz12_1
 try clear hfz13_0
 try clear hfz13_1
 try clear hfz18_0
 try clear hfz18_1
 try clear hfz8_0
 try clear hfz8_1
 try clear hxz3_0
 try clear p2
 try clear pz3
 try clear qz3
 obtain ⟨x6_2, x7_2, rfl, rfl, HA, HK2, BKz1, HB⟩ := hrel
 cases gk with
 | zero => exact absurd HA.out (by simp [columbariumref14_Read.l0])
 | succ k2 => ?_
 have H := HA.out
 clear HA
 simp only [columbariumref14_Read.l0] at H
 by_cases c19 : x7_2 < (l0_1.length : Int)
 rotate_left
 ·rw [if_neg c19] at H
  have c19b0 : decide (x7_2 < (l0_1.length : Int)) = false := decide_eq_false c19
  clear c19
  simp only [Option.some.injEq, Prod.mk.injEq] at H
  obtain ⟨rfl, rfl⟩ := H
  obtain ⟨hcz24_0, hcz24_1⟩ := bc2 BKz1
  obtain ⟨hfz24_0, hfz24_1⟩ := bf2 BKz1
  go_wp2
  go_ret2
  exact ⟨by first | rfl | (simp <;> rfl) | (simp [*] <;> rfl), by repeat first | (with_reducible first | exact HB.out | apply ba | apply bn | apply bd | refine bs (by assumption) ?_) | exact HB.out⟩
 rw [if_pos c19] at H
 have c19b0 : decide (x7_2 < (l0_1.length : Int)) = true := decide_eq_true c19
 clear c19
 by_cases c20 : 0 ≤ x7_2
 rotate_left
 ·rw [if_neg c20] at H
  exact absurd H (by simp)
 rw [if_pos c20] at H
 have c20b0 : decide (0 ≤ x7_2) = true := decide_eq_true c20
 clear c20
 by_cases c21 : ((rd_T24 l0_1 x7_2).f1) = a1
 rotate_left
 ·rw [if_neg c21] at H
  have c21b0 : (((rd_T24 l0_1 x7_2).f1) == a1) = false := beq_eq_false_iff_ne.mpr c21
  have c21b1 : (((rd_T24 l0_1 x7_2).f1) != a1) = true := bne_iff_ne.mpr c21
  have H' := am H
  clear H
  obtain ⟨hcz23_0, hcz23_1⟩ := bc2 BKz1
  obtain ⟨hfz23_0, hfz23_1⟩ := bf2 BKz1
  have pz4 : 0 ≤ (x7_2 : Int) := of_decide_eq_true (by first | (with_reducible assumption) | assumption)
  have qz4 : x7_2 < (l0_1.length : Int) := of_decide_eq_true (by first | (with_reducible assumption) | assumption)
  obtain ⟨adz4, ez4, hxz4_0, hxz4_1, hxz4_2⟩ := at_T24 HR0_1.out x7_2 pz4 qz4
  cases ez4
  replace hxz4_0 := (HB.out.cell (World.block_lt_of_cell? w _ hxz4_0)).trans hxz4_0
  replace hxz4_1 := (HB.out.cell (World.block_lt_of_cell? w _ hxz4_1)).trans hxz4_1
  replace hxz4_2 := (HB.out.cell (World.block_lt_of_cell? w _ hxz4_2)).trans hxz4_2
  replace pz4 := eq_true pz4
  replace qz4 := eq_true qz4
  go_wp2
  go_roundg k2
  case measure => have := HJ2.out; have := HK2.out; omega
  case rel => exact ⟨(x6_2), (wrap64 (x7_2 + 1)), (by first | rfl | (simp; done) | (simp [*]; done)), (by first | rfl | (simp; done) | (simp [*]; done)), H', ⟨by have := HJ2.out; have := HK2.out; omega⟩, ⟨by (with_reducible repeat (first | refine blk_drewN ?_ _ | refine blk_drew ?_ | refine blk_alloc ?_ _)); exact BKz1.out⟩, ⟨by repeat first | (with_reducible first | exact HB.out | apply ba | apply bn | apply bd | refine bs (by assumption) ?_) | exact HB.out⟩⟩
 rw [if_pos c21] at H
 have c21b0 : (((rd_T24 l0_1 x7_2).f1) == a1) = true := beq_iff_eq.mpr c21
 have c21b1 : (((rd_T24 l0_1 x7_2).f1) != a1) = false := bne_eq_false_iff_eq.mpr c21
 clear c21
 have H' := am H
 clear H
 obtain ⟨hcz22_0, hcz22_1⟩ := bc2 BKz1
 obtain ⟨hfz22_0, hfz22_1⟩ := bf2 BKz1
 have pz4 : 0 ≤ (x7_2 : Int) := of_decide_eq_true (by first | (with_reducible assumption) | assumption)
 have qz4 : x7_2 < (l0_1.length : Int) := of_decide_eq_true (by first | (with_reducible assumption) | assumption)
 obtain ⟨adz4, ez4, hxz4_0, hxz4_1, hxz4_2⟩ := at_T24 HR0_1.out x7_2 pz4 qz4
 cases ez4
 replace hxz4_0 := (HB.out.cell (World.block_lt_of_cell? w _ hxz4_0)).trans hxz4_0
 replace hxz4_1 := (HB.out.cell (World.block_lt_of_cell? w _ hxz4_1)).trans hxz4_1
 replace hxz4_2 := (HB.out.cell (World.block_lt_of_cell? w _ hxz4_2)).trans hxz4_2
 replace pz4 := eq_true pz4
 replace qz4 := eq_true qz4
 have pz5 : 0 ≤ (x7_2 : Int) := of_decide_eq_true (by first | (with_reducible assumption) | assumption)
 have qz5 : x7_2 < (l0_1.length : Int) := of_decide_eq_true (by first | (with_reducible assumption) | assumption)
 obtain ⟨adz5, ez5, hxz5_0, hxz5_1, hxz5_2⟩ := at_T24 HR0_1.out x7_2 pz5 qz5
 obtain rfl : adz4 = adz5 := (by injection ez5)
 replace hxz5_0 := (HB.out.cell (World.block_lt_of_cell? w _ hxz5_0)).trans hxz5_0
 replace hxz5_1 := (HB.out.cell (World.block_lt_of_cell? w _ hxz5_1)).trans hxz5_1
 replace hxz5_2 := (HB.out.cell (World.block_lt_of_cell? w _ hxz5_2)).trans hxz5_2
 replace pz5 := eq_true pz5
 replace qz5 := eq_true qz5
 go_wp2
 go_roundg k2
 case measure => have := HJ2.out; have := HK2.out; omega
 case rel => exact ⟨((rd_T24 l0_1 x7_2).f2), (wrap64 (x7_2 + 1)), (by first | rfl | (simp; done) | (simp [*]; done)), (by first | rfl | (simp; done) | (simp [*]; done)), H', ⟨by have := HJ2.out; have := HK2.out; omega⟩, ⟨by (with_reducible repeat (first | refine blk_drewN ?_ _ | refine blk_drew ?_ | refine blk_alloc ?_ _)); exact BKz1.out⟩, ⟨by repeat first | (with_reducible first | exact HB.out | apply ba | apply bn | apply bd | refine bs (by assumption) ?_) | exact HB.out⟩⟩

end Go.Proofs.Ytcfinlmocgbnbaa.Pr
