-- Written by wip/tools/xprint.py, a patched run of the kit's print: not typed by hand.
import Derived.Test.YtcfinlmocgbnbaaXSq
import Derived.Test.YtcfinlmocgbnbaaPr0
import Derived.Test.YtcfinlmocgbnbaaMref
namespace Go.Proofs.Ytcfinlmocgbnbaa.Pr
open Go.Proofs.Ytcfinlmocgbnbaa.Sq Go.RowKit Go.Proofs.YtcfinlmocgbnbaaW.PrintWords Go.Proofs.YtcfinlmocgbnbaaW.PrintLast Go.Proofs.YtcfinlmocgbnbaaW.PrintMore
attribute [local go_sem] max2_int min2_int max_two min_two max_three min_three max_four min_four   -- for this text's walks alone
set_option linter.unusedVariables false
set_option linter.unusedSimpArgs false

/-! ### columbariumref14_Right: function 21 -/
mutual
def columbariumref14_Right.j0 : Nat → Bool → List ByteArray → List (S24) → Option (Bool)
 | 0, _, _, _ => none
 | k + 1, x20, xz2000, xz2001 => if x20 = true then (some false) else (columbariumref14_Right.l0 k 0 xz2000 xz2001)
def columbariumref14_Right.l0 : Nat → Int → List ByteArray → List (S24) → Option (Bool)
 | 0, _, _, _ => none
 | k + 1, x3, xz2000, xz2001 => if x3 < (xz2000.length : Int) then (if 0 ≤ x3 then (if ((rdOf ByteArray.empty xz2000 x3).size : Int) = 64 then (columbariumref14_Right.l0 k (wrap64 (x3 + 1)) xz2000 xz2001) else (some false)) else (none)) else (columbariumref14_Right.l1 k 0 xz2000 xz2001)
def columbariumref14_Right.l1 : Nat → Int → List ByteArray → List (S24) → Option (Bool)
 | 0, _, _, _ => none
 | k + 1, x4, xz2000, xz2001 => if x4 < (xz2001.length : Int) then (if 0 ≤ x4 then (if (rd_T24 xz2001 x4).f0 = true then (some false) else ((columbariumref14_may.f ((rd_T24 xz2001 x4).f0) ((rd_T24 xz2001 x4).f1) ((rd_T24 xz2001 x4).f2) (xz2000.length : Int)).bind fun tz5 => (if tz5 = true then (columbariumref14_Right.l1 k (wrap64 (x4 + 1)) xz2000 xz2001) else (some false)))) else (none)) else (some true)
end
def columbariumref14_Right.f (k : Nat) (l0_0 : List ByteArray) (l0_1 : List (S24)) : Option (Bool) := if (l0_0.length : Int) < 1 then (columbariumref14_Right.j0 k true l0_0 l0_1) else (if (l0_0.length : Int) > 400 then (columbariumref14_Right.j0 k true l0_0 l0_1) else (columbariumref14_Right.j0 k (decide ((l0_1.length : Int) > 3000)) l0_0 l0_1))
theorem columbariumref14_Right.mono_l : ∀ k, (∀ y0 y1 y2, LeO (columbariumref14_Right.j0 k y0 y1 y2) (columbariumref14_Right.j0 (k + 1) y0 y1 y2)) ∧ (∀ y0 y1 y2, LeO (columbariumref14_Right.l0 k y0 y1 y2) (columbariumref14_Right.l0 (k + 1) y0 y1 y2)) ∧ (∀ y0 y1 y2, LeO (columbariumref14_Right.l1 k y0 y1 y2) (columbariumref14_Right.l1 (k + 1) y0 y1 y2))
 | 0 => ⟨fun _ _ _ r h => by simp [columbariumref14_Right.j0] at h, fun _ _ _ r h => by simp [columbariumref14_Right.l0] at h, fun _ _ _ r h => by simp [columbariumref14_Right.l1] at h⟩
 | k + 1 => by
  obtain ⟨ih0, ih1, ih2⟩ := columbariumref14_Right.mono_l k
  refine ⟨?_, ?_, ?_⟩
  ·intro y0 y1 y2
   unfold columbariumref14_Right.j0
   repeat' first
   | (with_reducible exact ih0 _ _ _)
   | (with_reducible exact ih1 _ _ _)
   | (with_reducible exact ih2 _ _ _)
   | (with_reducible exact LeO.refl _)
   | (with_reducible exact LeO.none _)
   | (with_reducible refine LeO.ite ?_ ?_)
   | (with_reducible refine LeO.bind ?_ (fun _ => ?_))
   | exact ih0 _ _ _
   | exact ih1 _ _ _
   | exact ih2 _ _ _
   | exact LeO.none _
   | refine LeO.ite ?_ ?_
   | refine LeO.bind ?_ (fun _ => ?_)
  ·intro y0 y1 y2
   unfold columbariumref14_Right.l0
   repeat' first
   | (with_reducible exact ih0 _ _ _)
   | (with_reducible exact ih1 _ _ _)
   | (with_reducible exact ih2 _ _ _)
   | (with_reducible exact LeO.refl _)
   | (with_reducible exact LeO.none _)
   | (with_reducible refine LeO.ite ?_ ?_)
   | (with_reducible refine LeO.bind ?_ (fun _ => ?_))
   | exact ih0 _ _ _
   | exact ih1 _ _ _
   | exact ih2 _ _ _
   | exact LeO.none _
   | refine LeO.ite ?_ ?_
   | refine LeO.bind ?_ (fun _ => ?_)
  ·intro y0 y1 y2
   unfold columbariumref14_Right.l1
   repeat' first
   | (with_reducible exact ih0 _ _ _)
   | (with_reducible exact ih1 _ _ _)
   | (with_reducible exact ih2 _ _ _)
   | (with_reducible exact LeO.refl _)
   | (with_reducible exact LeO.none _)
   | (with_reducible refine LeO.ite ?_ ?_)
   | (with_reducible refine LeO.bind ?_ (fun _ => ?_))
   | exact ih0 _ _ _
   | exact ih1 _ _ _
   | exact ih2 _ _ _
   | exact LeO.none _
   | refine LeO.ite ?_ ?_
   | refine LeO.bind ?_ (fun _ => ?_)
theorem columbariumref14_Right.mono : ∀ a0 a1 k, LeO (columbariumref14_Right.f k a0 a1) (columbariumref14_Right.f (k + 1) a0 a1) := by
 intro a0 a1 k
 obtain ⟨ih0, ih1, ih2⟩ := columbariumref14_Right.mono_l k
 unfold columbariumref14_Right.f
 repeat' first
  | (with_reducible exact ih0 _ _ _)
  | (with_reducible exact ih1 _ _ _)
  | (with_reducible exact ih2 _ _ _)
  | (with_reducible exact LeO.refl _)
  | (with_reducible exact LeO.none _)
  | (with_reducible refine LeO.ite ?_ ?_)
  | (with_reducible refine LeO.bind ?_ (fun _ => ?_))
  | exact ih0 _ _ _
  | exact ih1 _ _ _
  | exact ih2 _ _ _
  | exact LeO.none _
  | refine LeO.ite ?_ ?_
  | refine LeO.bind ?_ (fun _ => ?_)
def columbariumref14_Right.T11 : Bool × List (List Nat × List Nat) := (true, [([], []), ([0], [0]), ([], []), ([1, 2], [1, 2]), ([3], [3]), ([4], [4]), ([5], [5]), ([6], [6]), ([7, 6], [6, 7]), ([6], [6]), ([8, 9, 6], [6, 8, 9]), ([10, 6], [6, 10]), ([6], [6]), ([12, 6], [6, 12]), ([13, 6], [6, 13]), ([11, 14, 6, 6], [6, 11, 14]), ([15, 6], [6, 15]), ([6, 16], [6, 16])])
def columbariumref14_Right.B11 : List Nat := [0, 1, 0, 7, 15, 31, 63, 127, 255, 127, 1023, 2047, 127, 4223, 12415, 32767, 65535, 131071]
theorem columbariumref14_Right.tab11 : rtab .any (opsOf Try.f21 11) = columbariumref14_Right.T11 := by kernel_rfl
theorem columbariumref14_Right.bits11 : waitsOk columbariumref14_Right.T11.2 columbariumref14_Right.B11 = true := by kernel_rfl
set_option maxHeartbeats 8000000 in
set_option maxRecDepth 100000 in
theorem columbariumref14_Right.calls (k : Nat) (A0_0 : Option Addr) (c0_0 : Nat) (l0_0 : List ByteArray) (A0_1 : Option Addr) (c0_1 : Nat) (l0_1 : List (S24)) (r : Bool) (w : World) (hr0_0 : Kd.C Kd.string w A0_0 l0_0.length l0_0) (hc0_0 : l0_0.length ≤ c0_0) (hr0_1 : Kd.C k24 w A0_1 l0_1.length l0_1) (hc0_1 : l0_1.length ≤ c0_1) (h : columbariumref14_Right.f k l0_0 l0_1 = some r) :
  Calls Try.prog 21 #[.agg #[.slice A0_0 l0_0.length c0_0, .slice A0_1 l0_1.length c0_1]] w fun e w' => e = .returned (.bool r) ∧ Below w.heap.size w w' := by
 have hu30 := Try.underlying30
 have hu24 := Try.underlying24
 have HR0_0 := am hr0_0
 have HC0_0 := am hc0_0
 clear hr0_0 hc0_0
 have HR0_1 := am hr0_1
 have HC0_1 := am hc0_1
 clear hr0_1 hc0_1
 have HB := am (Below.refl w.heap.size w)
 have H : (if (l0_0.length : Int) < 1 then (columbariumref14_Right.j0 k true l0_0 l0_1) else (if (l0_0.length : Int) > 400 then (columbariumref14_Right.j0 k true l0_0 l0_1) else (columbariumref14_Right.j0 k (decide ((l0_1.length : Int) > 3000)) l0_0 l0_1))) = some r := h
 clear h
 have HC2 := am H
 clear H
 go_enter Try.func21, Try.ntmps21
 go_upto_region 1 with (first | ((with_reducible refine gate_dst (N := 1) rfl ?_); (try (refine gate_guard (by rfl) ?_; dsimp only)); refine box_event ?hg (N := 1) ?hd (cs := #[.slice A0_0 l0_0.length c0_0, .slice A0_1 l0_1.length c0_1]) (t := 30) ?hr ?_; (case hd => rfl); (case hg => rfl); (case hr => first | (go_simp; done) | (go_simp; rfl)); intro gbz1 hg w3 hbox hb; have n0_ := am (below_step (pb HB) hb); have n1_ := am (hbox); have n2_ := ge_ hg (pb HB); have n3_ := ge_ hg (pb HB); clear HB; have HB := n0_; have BKz1 := n1_; have GWz1 := n2_; have GEz1 := n3_; clear n0_ n1_ n2_ n3_; clear hb hbox hg))
 (try simp only [Act.put, List.setIfInBounds_toArray, List.set_cons_zero, List.set_cons_succ])
 go_cut [20] (fun v20 wc => ∃ (kq : Nat) (x20_1 : Bool), v20 = .bool x20_1 ∧ Aside0 (columbariumref14_Right.j0 kq x20_1 l0_0 l0_1 = some r) ∧ Aside0 (kq ≤ k) ∧ Aside0 (wc.heap[gbz1]? = some (.cells #[(.slice A0_0 l0_0.length c0_0), (.slice A0_1 l0_1.length c0_1)] 30 (0, 0))) ∧ Aside0 (Below w.heap.size w wc))
 case first =>
  have H := HC2.out
  clear HC2
  by_cases c4 : (l0_0.length : Int) < 1
  ·rw [if_pos c4] at H
   have c4b0 : decide ((l0_0.length : Int) < 1) = true := decide_eq_true c4
   have c4b1 : decide (l0_0.length < 1) = true := decide_eq_true (by omega)
   clear c4
   (first | rw [c4b0] | rw [c4b1] | (simp only [i64_w, i32_w]; rw [c4b0]) | skip)
   have H' := am H
   clear H
   obtain ⟨hcz5_0, hcz5_1⟩ := bc2 BKz1
   obtain ⟨hfz5_0, hfz5_1⟩ := bf2 BKz1
   go_wp2
   go_meet
   case rel => exact ⟨_, (true), (by first | rfl | (simp; done) | (simp [*]; done)), H', ⟨by first | omega | exact Nat.le_refl _⟩, ⟨by (with_reducible repeat (first | refine blk_drewN ?_ _ | refine blk_drew ?_ | refine blk_alloc ?_ _)); exact BKz1.out⟩, ⟨by repeat first | (with_reducible first | exact HB.out | apply ba | apply bn | apply bd | refine bs (by assumption) ?_) | exact HB.out⟩⟩
  rw [if_neg c4] at H
  have c4b0 : decide ((l0_0.length : Int) < 1) = false := decide_eq_false c4
  have c4b1 : decide (l0_0.length < 1) = false := decide_eq_false (by omega)
  clear c4
  (first | rw [c4b0] | rw [c4b1] | (simp only [i64_w, i32_w]; rw [c4b0]) | skip)
  by_cases c6 : (l0_0.length : Int) > 400
  ·rw [if_pos c6] at H
   have c6b0 : decide (400 < (l0_0.length : Int)) = true := decide_eq_true c6
   have c6b1 : decide (400 < l0_0.length) = true := decide_eq_true (by omega)
   clear c6
   have H' := am H
   clear H
   obtain ⟨hcz7_0, hcz7_1⟩ := bc2 BKz1
   obtain ⟨hfz7_0, hfz7_1⟩ := bf2 BKz1
   go_wp2
   go_meet
   case rel => exact ⟨_, (true), (by first | rfl | (simp; done) | (simp [*]; done)), H', ⟨by first | omega | exact Nat.le_refl _⟩, ⟨by (with_reducible repeat (first | refine blk_drewN ?_ _ | refine blk_drew ?_ | refine blk_alloc ?_ _)); exact BKz1.out⟩, ⟨by repeat first | (with_reducible first | exact HB.out | apply ba | apply bn | apply bd | refine bs (by assumption) ?_) | exact HB.out⟩⟩
  rw [if_neg c6] at H
  have c6b0 : decide (400 < (l0_0.length : Int)) = false := decide_eq_false c6
  have c6b1 : decide (400 < l0_0.length) = false := decide_eq_false (by omega)
  clear c6
  have H' := am H
  clear H
  obtain ⟨hcz8_0, hcz8_1⟩ := bc2 BKz1
  obtain ⟨hfz8_0, hfz8_1⟩ := bf2 BKz1
  go_wp2
  go_meet
  case rel => exact ⟨_, (decide ((l0_1.length : Int) > 3000)), (by first | rfl | (simp; done) | (simp [*]; done)), H', ⟨by first | omega | exact Nat.le_refl _⟩, ⟨by (with_reducible repeat (first | refine blk_drewN ?_ _ | refine blk_drew ?_ | refine blk_alloc ?_ _)); exact BKz1.out⟩, ⟨by repeat first | (with_reducible first | exact HB.out | apply ba | apply bn | apply bd | refine bs (by assumption) ?_) | exact HB.out⟩⟩
 clear HC2
 try clear c2
 try clear p2
 try clear c4
 try clear c4b0
 try clear c4b1
 try clear c6
 try clear c6b0
 try clear c6b1
 try clear hcz5_0
 try clear hcz5_1
 try clear hcz7_0
 try clear hcz7_1
 try clear hcz8_0
 try clear hcz8_1
 try clear hfz5_0
 try clear hfz5_1
 try clear hfz7_0
 try clear hfz7_1
 try clear hfz8_0
 try clear hfz8_1
 obtain ⟨kq, x20_1, rfl, HA, HJ1, BKz1, HB⟩ := hcut
 cases kq with
 | zero => exact absurd HA.out (by simp [columbariumref14_Right.j0])
 | succ kj1 => ?_
 have H := HA.out
 clear HA
 simp only [columbariumref14_Right.j0] at H
 by_cases c9 : x20_1 = true
 ·subst c9
  have H1 : (some false) = some r := by rw [if_pos rfl] at H; exact H
  clear H
  have H := H1
  clear H1
  obtain rfl := Option.some.inj H
  go_wp2
  go_ret
  exact ⟨by first | rfl | (simp <;> rfl) | (simp [*] <;> rfl), by repeat first | (with_reducible first | exact HB.out | apply ba | apply bn | apply bd | refine bs (by assumption) ?_) | exact HB.out⟩
 replace c9 := Bool.eq_false_iff.mpr c9
 subst c9
 have H1 : (columbariumref14_Right.l0 kj1 0 l0_0 l0_1) = some r := by rw [if_neg (show ¬ (false = true) by decide)] at H; exact H
 clear H
 have H := H1
 clear H1
 have H' := am H
 clear H
 go_wp2
 go_loopg [3] kj1 (fun kq v3 w' => ∃ (x3_2 : Int), v3 = .int .i64 x3_2 ∧ Aside0 (columbariumref14_Right.l0 kq x3_2 l0_0 l0_1 = some r) ∧ Aside0 (kq ≤ kj1) ∧ Aside0 (w'.heap[gbz1]? = some (.cells #[(.slice A0_0 l0_0.length c0_0), (.slice A0_1 l0_1.length c0_1)] 30 (0, 0))) ∧ Aside0 (Below w.heap.size w w'))
 case atStart => exact ⟨(0), (by first | rfl | (simp; done) | (simp [*]; done)), H', ⟨Nat.le_refl _⟩, ⟨by (with_reducible repeat (first | refine blk_drewN ?_ _ | refine blk_drew ?_ | refine blk_alloc ?_ _)); exact BKz1.out⟩, ⟨by repeat first | (with_reducible first | exact HB.out | apply ba | apply bn | apply bd | refine bs (by assumption) ?_) | exact HB.out⟩⟩
 clear H'
 try clear c2
 try clear p2
 try clear c4
 try clear c4b0
 try clear c4b1
 try clear c6
 try clear c6b0
 try clear c6b1
 try clear c9
 try clear hcz5_0
 try clear hcz5_1
 try clear hcz7_0
 try clear hcz7_1
 try clear hcz8_0
 try clear hcz8_1
 try clear hfz5_0
 try clear hfz5_1
 try clear hfz7_0
 try clear hfz7_1
 try clear hfz8_0
 try clear hfz8_1
 try clear p2
 obtain ⟨x3_2, rfl, HA, HK2, BKz1, HB⟩ := hrel
 cases gk with
 | zero => exact absurd HA.out (by simp [columbariumref14_Right.l0])
 | succ k2 => ?_
 have H := HA.out
 clear HA
 simp only [columbariumref14_Right.l0] at H
 by_cases c10 : x3_2 < (l0_0.length : Int)
 ·rw [if_pos c10] at H
  have c10b0 : decide (x3_2 < (l0_0.length : Int)) = true := decide_eq_true c10
  clear c10
  by_cases c11 : 0 ≤ x3_2
  rotate_left
  ·rw [if_neg c11] at H
   exact absurd H (by simp)
  rw [if_pos c11] at H
  have c11b0 : decide (0 ≤ x3_2) = true := decide_eq_true c11
  clear c11
  by_cases c12 : ((rdOf ByteArray.empty l0_0 x3_2).size : Int) = 64
  rotate_left
  ·rw [if_neg c12] at H
   have c12b0 : (((rdOf ByteArray.empty l0_0 x3_2).size : Int) == 64) = false := beq_eq_false_iff_ne.mpr c12
   have c12b1 : (((rdOf ByteArray.empty l0_0 x3_2).size : Int) != 64) = true := bne_iff_ne.mpr c12
   obtain rfl := Option.some.inj H
   obtain ⟨hcz14_0, hcz14_1⟩ := bc2 BKz1
   obtain ⟨hfz14_0, hfz14_1⟩ := bf2 BKz1
   have pz2 : 0 ≤ (x3_2 : Int) := of_decide_eq_true (by first | (with_reducible assumption) | assumption)
   have qz2 : x3_2 < (l0_0.length : Int) := of_decide_eq_true (by first | (with_reducible assumption) | assumption)
   obtain ⟨adz2, ez2, hxz2_0⟩ := Kd.at_string HR0_0.out x3_2 pz2 qz2
   cases ez2
   replace hxz2_0 := (HB.out.cell (World.block_lt_of_cell? w _ hxz2_0)).trans hxz2_0
   replace pz2 := eq_true pz2
   replace qz2 := eq_true qz2
   go_wp2
   go_ret
   exact ⟨by first | rfl | (simp <;> rfl) | (simp [*] <;> rfl), by repeat first | (with_reducible first | exact HB.out | apply ba | apply bn | apply bd | refine bs (by assumption) ?_) | exact HB.out⟩
  rw [if_pos c12] at H
  have c12b0 : (((rdOf ByteArray.empty l0_0 x3_2).size : Int) == 64) = true := beq_iff_eq.mpr c12
  have c12b1 : (((rdOf ByteArray.empty l0_0 x3_2).size : Int) != 64) = false := bne_eq_false_iff_eq.mpr c12
  clear c12
  have H' := am H
  clear H
  obtain ⟨hcz13_0, hcz13_1⟩ := bc2 BKz1
  obtain ⟨hfz13_0, hfz13_1⟩ := bf2 BKz1
  have pz2 : 0 ≤ (x3_2 : Int) := of_decide_eq_true (by first | (with_reducible assumption) | assumption)
  have qz2 : x3_2 < (l0_0.length : Int) := of_decide_eq_true (by first | (with_reducible assumption) | assumption)
  obtain ⟨adz2, ez2, hxz2_0⟩ := Kd.at_string HR0_0.out x3_2 pz2 qz2
  cases ez2
  replace hxz2_0 := (HB.out.cell (World.block_lt_of_cell? w _ hxz2_0)).trans hxz2_0
  replace pz2 := eq_true pz2
  replace qz2 := eq_true qz2
  go_wp2
  go_roundg k2
  case measure => have := HJ1.out; have := HK2.out; omega
  case rel => exact ⟨(wrap64 (x3_2 + 1)), (by first | rfl | (simp; done) | (simp [*]; done)), H', ⟨by have := HJ1.out; have := HK2.out; omega⟩, ⟨by (with_reducible repeat (first | refine blk_drewN ?_ _ | refine blk_drew ?_ | refine blk_alloc ?_ _)); exact BKz1.out⟩, ⟨by repeat first | (with_reducible first | exact HB.out | apply ba | apply bn | apply bd | refine bs (by assumption) ?_) | exact HB.out⟩⟩
 rw [if_neg c10] at H
 have c10b0 : decide (x3_2 < (l0_0.length : Int)) = false := decide_eq_false c10
 clear c10
 have H' := am H
 clear H
 obtain ⟨hcz15_0, hcz15_1⟩ := bc2 BKz1
 obtain ⟨hfz15_0, hfz15_1⟩ := bf2 BKz1
 go_wp2
 go_loopg [4] k2 (fun kq v4 w' => ∃ (x4_3 : Int), v4 = .int .i64 x4_3 ∧ Aside0 (columbariumref14_Right.l1 kq x4_3 l0_0 l0_1 = some r) ∧ Aside0 (kq ≤ k2) ∧ Aside0 (w'.heap[gbz1]? = some (.cells #[(.slice A0_0 l0_0.length c0_0), (.slice A0_1 l0_1.length c0_1)] 30 (0, 0))) ∧ Aside0 (Below w.heap.size w w'))
 case atStart => exact ⟨(0), (by first | rfl | (simp; done) | (simp [*]; done)), H', ⟨Nat.le_refl _⟩, ⟨by (with_reducible repeat (first | refine blk_drewN ?_ _ | refine blk_drew ?_ | refine blk_alloc ?_ _)); exact BKz1.out⟩, ⟨by repeat first | (with_reducible first | exact HB.out | apply ba | apply bn | apply bd | refine bs (by assumption) ?_) | exact HB.out⟩⟩
 clear H'
 try clear c1
 try clear c2
 try clear p2
 try clear q2
 try clear hx2
 try clear c4
 try clear c4b0
 try clear c4b1
 try clear c6
 try clear c6b0
 try clear c6b1
 try clear p6
 try clear c9
 try clear c10
 try clear c10b0
 try clear c11
 try clear c11b0
 try clear c12
 try clear c12b0
 try clear c12b1
 try clear hcz13_0
 try clear hcz13_1
 try clear hcz14_0
 try clear hcz14_1
 try clear hcz15_0
 try clear hcz15_1
 try clear hcz5_0
 try clear hcz5_1
 try clear hcz7_0
 try clear hcz7_1
 try clear hcz8_0
 try clear hcz8_1
 try clear hfz13_0
 try clear hfz13_1
 try clear hfz14_0
 try clear hfz14_1
 try clear hfz15_0
 try clear hfz15_1
 try clear hfz5_0
 try clear hfz5_1
 try clear hfz7_0
 try clear hfz7_1
 try clear hfz8_0
 try clear hfz8_1
 try clear hxz2_0
 try clear p2
 try clear pz2
 try clear qz2
 obtain ⟨x4_3, rfl, HA, HK3, BKz1, HB⟩ := hrel
 cases gk with
 | zero => exact absurd HA.out (by simp [columbariumref14_Right.l1])
 | succ k3 => ?_
 have H := HA.out
 clear HA
 simp only [columbariumref14_Right.l1] at H
 by_cases c16 : x4_3 < (l0_1.length : Int)
 rotate_left
 ·rw [if_neg c16] at H
  have c16b0 : decide (x4_3 < (l0_1.length : Int)) = false := decide_eq_false c16
  clear c16
  obtain rfl := Option.some.inj H
  obtain ⟨hcz30_0, hcz30_1⟩ := bc2 BKz1
  obtain ⟨hfz30_0, hfz30_1⟩ := bf2 BKz1
  go_wp2
  go_ret
  exact ⟨by first | rfl | (simp <;> rfl) | (simp [*] <;> rfl), by repeat first | (with_reducible first | exact HB.out | apply ba | apply bn | apply bd | refine bs (by assumption) ?_) | exact HB.out⟩
 rw [if_pos c16] at H
 have c16b0 : decide (x4_3 < (l0_1.length : Int)) = true := decide_eq_true c16
 clear c16
 by_cases c17 : 0 ≤ x4_3
 rotate_left
 ·rw [if_neg c17] at H
  exact absurd H (by simp)
 rw [if_pos c17] at H
 have c17b0 : decide (0 ≤ x4_3) = true := decide_eq_true c17
 clear c17
 obtain ⟨bq18, hbq18⟩ : ∃ b_ : Bool, b_ = ((rd_T24 l0_1 x4_3).f0) := ⟨_, rfl⟩
 replace H : (if bq18 = true then (some false) else ((columbariumref14_may.f (bq18) ((rd_T24 l0_1 x4_3).f1) ((rd_T24 l0_1 x4_3).f2) (l0_0.length : Int)).bind fun tz5 => (if tz5 = true then (columbariumref14_Right.l1 k3 (wrap64 (x4_3 + 1)) l0_0 l0_1) else (some false)))) = some r := by rw [← hbq18] at H; exact H
 have Nbq18 := am hbq18
 clear hbq18
 by_cases c19 : bq18 = true
 ·subst c19
  have H1 : (some false) = some r := by rw [if_pos rfl] at H; exact H
  clear H
  have H := H1
  clear H1
  obtain rfl := Option.some.inj H
  obtain ⟨hcz20_0, hcz20_1⟩ := bc2 BKz1
  obtain ⟨hfz20_0, hfz20_1⟩ := bf2 BKz1
  try go_wp2
  have n0_ := am (blk_drew BKz1.out)
  have n1_ := am (below_drew1 HB.out)
  clear BKz1 HB; have BKz1 := n0_; have HB := n1_; clear n0_ n1_
  have pz3 : 0 ≤ (x4_3 : Int) := of_decide_eq_true (by first | (with_reducible assumption) | assumption)
  have qz3 : x4_3 < (l0_1.length : Int) := of_decide_eq_true (by first | (with_reducible assumption) | assumption)
  obtain ⟨adz3, ez3, hxz3_0, hxz3_1, hxz3_2⟩ := at_T24 HR0_1.out x4_3 pz3 qz3
  have hwz3_2 := hxz3_2
  have hwz3_1 := hxz3_1
  have hwz3_0 := hxz3_0
  (try rw [← Nbq18.out] at hxz3_0); (try rw [← Nbq18.out] at hwz3_0)
  cases ez3
  replace hxz3_0 := (HB.out.cell (World.block_lt_of_cell? w _ hxz3_0)).trans hxz3_0
  replace hxz3_1 := (HB.out.cell (World.block_lt_of_cell? w _ hxz3_1)).trans hxz3_1
  replace hxz3_2 := (HB.out.cell (World.block_lt_of_cell? w _ hxz3_2)).trans hxz3_2
  replace pz3 := eq_true pz3
  replace qz3 := eq_true qz3
  refine start_ (n := 18) (S := fun w' => w'.cell? ⟨gbz1, 0, none⟩ = some (.slice A0_0 l0_0.length c0_0) ∧ w'.cell? ⟨gbz1, 1, none⟩ = some (.slice (some adz3) l0_1.length c0_1) ∧ w'.cell? (adz3.add ((x4_3).toNat * 3)) = some (.bool true) ∧ w'.cell? ⟨(adz3.add ((x4_3).toNat * 3)).block, (adz3.add ((x4_3).toNat * 3)).off + 1, none⟩ = some (.int .i64 ((rd_T24 l0_1 x4_3).f1)) ∧ w'.cell? ⟨(adz3.add ((x4_3).toNat * 3)).block, (adz3.add ((x4_3).toNat * 3)).off + 2, none⟩ = some (.string ((rd_T24 l0_1 x4_3).f2))) (ds := []) #[false, false, false, false, false, false, false, false, false, false, false, false, false, false, false, false, false, false] (by kernel_rfl) rfl rfl ⟨(blk_cell BKz1.out 0).trans rfl, (blk_cell BKz1.out 1).trans rfl, ((HB.out.cell (World.block_lt_of_cell? w _ hwz3_0)).trans hwz3_0), ((HB.out.cell (World.block_lt_of_cell? w _ hwz3_1)).trans hwz3_1), ((HB.out.cell (World.block_lt_of_cell? w _ hwz3_2)).trans hwz3_2)⟩ (fun hHeld => ?_); refine with_tabW columbariumref14_Right.tab11 columbariumref14_Right.bits11 (fun HT_ HW_ => ?_)
  generalize wr.drew = w21 at BKz1 HB hxz3_0 hxz3_1 hxz3_2 hHeld ⊢
  refine pu_ 0 (some 42) HT_ rfl rfl (.inl ⟨by rfl, by intro w'; go_simp; with_reducible rfl⟩) (by simp only [Act.put, sa_, s0_, s1_, i64_w, i32_w]; rfl) ?_
  refine pu_ 2 (some 44) HT_ rfl rfl (.inl ⟨by rfl, by intro w'; go_simp; with_reducible rfl⟩) (by simp only [Act.put, sa_, s0_, s1_, i64_w, i32_w]; rfl) ?_
  refine tk_ 1 (some 43) HT_ HW_ rfl rfl (.inl ⟨by rfl, by rintro w' ⟨s0, s1, s2, s3, s4⟩; go_simp; with_reducible rfl⟩) hHeld (by simp only [Act.put, sa_, s0_, s1_, i64_w, i32_w]; rfl) ?_
  refine pu_ 3 (some 45) HT_ rfl rfl (.inl ⟨by rfl, by intro w'; go_simp; with_reducible rfl⟩) (by simp only [Act.put, sa_, s0_, s1_, i64_w, i32_w]; rfl) ?_
  refine pu_ 4 (some 46) HT_ rfl rfl (.inl ⟨by rfl, by intro w'; go_simp; with_reducible rfl⟩) (by simp only [Act.put, sa_, s0_, s1_, i64_w, i32_w]; rfl) ?_
  refine tk_ 5 (some 47) HT_ HW_ rfl rfl (.inl ⟨by rfl, by rintro w' ⟨s0, s1, s2, s3, s4⟩; go_simp; with_reducible rfl⟩) hHeld (by simp only [Act.put, sa_, s0_, s1_, i64_w, i32_w]; rfl) ?_
  refine pu_ 6 (some 48) HT_ rfl rfl (.inl ⟨by rfl, by intro w'; go_simp; with_reducible rfl⟩) (by simp only [Act.put, sa_, s0_, s1_, i64_w, i32_w]; rfl) ?_
  refine pu_ (v := undef) 7 (some 49) HT_ rfl rfl (.inr ⟨by rfl, rfl⟩) (by simp only [Act.put, sa_, s0_, s1_, i64_w, i32_w]; rfl) ?_
  refine pu_ (v := undef) 8 (some 50) HT_ rfl rfl (.inr ⟨by rfl, rfl⟩) (by simp only [Act.put, sa_, s0_, s1_, i64_w, i32_w]; rfl) ?_
  refine pu_ (v := undef) 9 (some 51) HT_ rfl rfl (.inr ⟨by rfl, rfl⟩) (by simp only [Act.put, sa_, s0_, s1_, i64_w, i32_w]; rfl) ?_
  refine pu_ (v := undef) 10 (some 52) HT_ rfl rfl (.inr ⟨by rfl, rfl⟩) (by simp only [Act.put, sa_, s0_, s1_, i64_w, i32_w]; rfl) ?_
  refine pu_ (v := undef) 11 (some 53) HT_ rfl rfl (.inr ⟨by rfl, rfl⟩) (by simp only [Act.put, sa_, s0_, s1_, i64_w, i32_w]; rfl) ?_
  refine pu_ (v := undef) 12 (some 54) HT_ rfl rfl (.inr ⟨by rfl, rfl⟩) (by simp only [Act.put, sa_, s0_, s1_, i64_w, i32_w]; rfl) ?_
  refine pu_ (v := undef) 13 (some 55) HT_ rfl rfl (.inr ⟨by rfl, rfl⟩) (by simp only [Act.put, sa_, s0_, s1_, i64_w, i32_w]; rfl) ?_
  refine pu_ (v := undef) 14 (some 56) HT_ rfl rfl (.inr ⟨by rfl, rfl⟩) (by simp only [Act.put, sa_, s0_, s1_, i64_w, i32_w]; rfl) ?_
  refine pu_ (v := undef) 15 (some 57) HT_ rfl rfl (.inr ⟨by rfl, rfl⟩) (by simp only [Act.put, sa_, s0_, s1_, i64_w, i32_w]; rfl) ?_
  refine pu_ (v := undef) 16 (some 58) HT_ rfl rfl (.inr ⟨by rfl, rfl⟩) (by simp only [Act.put, sa_, s0_, s1_, i64_w, i32_w]; rfl) ?_
  refine pu_ 17 (some 59) HT_ rfl rfl (.inl ⟨by rfl, by intro w'; go_simp; with_reducible rfl⟩) (by simp only [Act.put, sa_, s0_, s1_, i64_w, i32_w]; rfl) ?_
  refine done_ (done_of HT_.out (by kernel_rfl)) ?_
  try go_wp2
  go_ret
  exact ⟨by first | rfl | (simp <;> rfl) | (simp [*] <;> rfl), by repeat first | (with_reducible first | exact HB.out | apply ba | apply bn | apply bd | refine bs (by assumption) ?_) | exact HB.out⟩
 replace c19 := Bool.eq_false_iff.mpr c19
 subst c19
 have H1 : ((columbariumref14_may.f (false) ((rd_T24 l0_1 x4_3).f1) ((rd_T24 l0_1 x4_3).f2) (l0_0.length : Int)).bind fun tz5 => (if tz5 = true then (columbariumref14_Right.l1 k3 (wrap64 (x4_3 + 1)) l0_0 l0_1) else (some false))) = some r := by rw [if_neg (show ¬ (false = true) by decide)] at H; exact H
 clear H
 have H := H1
 clear H1
 replace H := ob_ H
 obtain ⟨tz5, A220, H⟩ := H
 replace H : (if tz5 = true then (columbariumref14_Right.l1 k3 (wrap64 (x4_3 + 1)) l0_0 l0_1) else (some false)) = some r := H
 have A22 := Aside0.mk A220
 clear A220
 by_cases c23 : tz5 = true
 rotate_left
 ·replace c23 := Bool.eq_false_iff.mpr c23
  subst c23
  have H1 : (some false) = some r := by rw [if_neg (show ¬ (false = true) by decide)] at H; exact H
  clear H
  have H := H1
  clear H1
  obtain rfl := Option.some.inj H
  obtain ⟨hcz27_0, hcz27_1⟩ := bc2 BKz1
  obtain ⟨hfz27_0, hfz27_1⟩ := bf2 BKz1
  try go_wp2
  have n0_ := am (blk_drew BKz1.out)
  have n1_ := am (below_drew1 HB.out)
  clear BKz1 HB; have BKz1 := n0_; have HB := n1_; clear n0_ n1_
  have pz3 : 0 ≤ (x4_3 : Int) := of_decide_eq_true (by first | (with_reducible assumption) | assumption)
  have qz3 : x4_3 < (l0_1.length : Int) := of_decide_eq_true (by first | (with_reducible assumption) | assumption)
  obtain ⟨adz3, ez3, hxz3_0, hxz3_1, hxz3_2⟩ := at_T24 HR0_1.out x4_3 pz3 qz3
  have hwz3_2 := hxz3_2
  have hwz3_1 := hxz3_1
  have hwz3_0 := hxz3_0
  (try rw [← Nbq18.out] at hxz3_0); (try rw [← Nbq18.out] at hwz3_0)
  cases ez3
  replace hxz3_0 := (HB.out.cell (World.block_lt_of_cell? w _ hxz3_0)).trans hxz3_0
  replace hxz3_1 := (HB.out.cell (World.block_lt_of_cell? w _ hxz3_1)).trans hxz3_1
  replace hxz3_2 := (HB.out.cell (World.block_lt_of_cell? w _ hxz3_2)).trans hxz3_2
  replace pz3 := eq_true pz3
  replace qz3 := eq_true qz3
  have pz4 : 0 ≤ (x4_3 : Int) := of_decide_eq_true (by first | (with_reducible assumption) | assumption)
  have qz4 : x4_3 < (l0_1.length : Int) := of_decide_eq_true (by first | (with_reducible assumption) | assumption)
  obtain ⟨adz4, ez4, hxz4_0, hxz4_1, hxz4_2⟩ := at_T24 HR0_1.out x4_3 pz4 qz4
  have hwz4_2 := hxz4_2
  have hwz4_1 := hxz4_1
  have hwz4_0 := hxz4_0
  (try rw [← Nbq18.out] at hxz4_0); (try rw [← Nbq18.out] at hwz4_0)
  obtain rfl : adz3 = adz4 := (by injection ez4)
  replace hxz4_0 := (HB.out.cell (World.block_lt_of_cell? w _ hxz4_0)).trans hxz4_0
  replace hxz4_1 := (HB.out.cell (World.block_lt_of_cell? w _ hxz4_1)).trans hxz4_1
  replace hxz4_2 := (HB.out.cell (World.block_lt_of_cell? w _ hxz4_2)).trans hxz4_2
  replace pz4 := eq_true pz4
  replace qz4 := eq_true qz4
  refine start_ (n := 18) (S := fun w' => w'.cell? ⟨gbz1, 0, none⟩ = some (.slice A0_0 l0_0.length c0_0) ∧ w'.cell? ⟨gbz1, 1, none⟩ = some (.slice (some adz3) l0_1.length c0_1) ∧ w'.cell? (adz3.add ((x4_3).toNat * 3)) = some (.bool false) ∧ w'.cell? ⟨(adz3.add ((x4_3).toNat * 3)).block, (adz3.add ((x4_3).toNat * 3)).off + 1, none⟩ = some (.int .i64 ((rd_T24 l0_1 x4_3).f1)) ∧ w'.cell? ⟨(adz3.add ((x4_3).toNat * 3)).block, (adz3.add ((x4_3).toNat * 3)).off + 2, none⟩ = some (.string ((rd_T24 l0_1 x4_3).f2)) ∧ w'.cell? (adz3.add ((x4_3).toNat * 3)) = some (.bool (false)) ∧ w'.cell? ⟨(adz3.add ((x4_3).toNat * 3)).block, (adz3.add ((x4_3).toNat * 3)).off + 1, none⟩ = some (.int .i64 ((rd_T24 l0_1 x4_3).f1)) ∧ w'.cell? ⟨(adz3.add ((x4_3).toNat * 3)).block, (adz3.add ((x4_3).toNat * 3)).off + 2, none⟩ = some (.string ((rd_T24 l0_1 x4_3).f2))) (ds := []) #[false, false, false, false, false, false, false, false, false, false, false, false, false, false, false, false, false, false] (by kernel_rfl) rfl rfl ⟨(blk_cell BKz1.out 0).trans rfl, (blk_cell BKz1.out 1).trans rfl, ((HB.out.cell (World.block_lt_of_cell? w _ hwz3_0)).trans hwz3_0), ((HB.out.cell (World.block_lt_of_cell? w _ hwz3_1)).trans hwz3_1), ((HB.out.cell (World.block_lt_of_cell? w _ hwz3_2)).trans hwz3_2), ((HB.out.cell (World.block_lt_of_cell? w _ hwz4_0)).trans hwz4_0), ((HB.out.cell (World.block_lt_of_cell? w _ hwz4_1)).trans hwz4_1), ((HB.out.cell (World.block_lt_of_cell? w _ hwz4_2)).trans hwz4_2)⟩ (fun hHeld => ?_); refine with_tabW columbariumref14_Right.tab11 columbariumref14_Right.bits11 (fun HT_ HW_ => ?_)
  generalize wr.drew = w28 at BKz1 HB hxz3_0 hxz3_1 hxz3_2 hxz4_0 hxz4_1 hxz4_2 hHeld ⊢
  refine pu_ 0 (some 42) HT_ rfl rfl (.inl ⟨by rfl, by intro w'; go_simp; with_reducible rfl⟩) (by simp only [Act.put, sa_, s0_, s1_, i64_w, i32_w]; rfl) ?_
  refine pu_ 2 (some 44) HT_ rfl rfl (.inl ⟨by rfl, by intro w'; go_simp; with_reducible rfl⟩) (by simp only [Act.put, sa_, s0_, s1_, i64_w, i32_w]; rfl) ?_
  refine tk_ 1 (some 43) HT_ HW_ rfl rfl (.inl ⟨by rfl, by rintro w' ⟨s0, s1, s2, s3, s4, s5, s6, s7⟩; go_simp; with_reducible rfl⟩) hHeld (by simp only [Act.put, sa_, s0_, s1_, i64_w, i32_w]; rfl) ?_
  refine pu_ 3 (some 45) HT_ rfl rfl (.inl ⟨by rfl, by intro w'; go_simp; with_reducible rfl⟩) (by simp only [Act.put, sa_, s0_, s1_, i64_w, i32_w]; rfl) ?_
  refine pu_ 4 (some 46) HT_ rfl rfl (.inl ⟨by rfl, by intro w'; go_simp; with_reducible rfl⟩) (by simp only [Act.put, sa_, s0_, s1_, i64_w, i32_w]; rfl) ?_
  refine tk_ 5 (some 47) HT_ HW_ rfl rfl (.inl ⟨by rfl, by rintro w' ⟨s0, s1, s2, s3, s4, s5, s6, s7⟩; go_simp; with_reducible rfl⟩) hHeld (by simp only [Act.put, sa_, s0_, s1_, i64_w, i32_w]; rfl) ?_
  refine pu_ 6 (some 48) HT_ rfl rfl (.inl ⟨by rfl, by intro w'; go_simp; with_reducible rfl⟩) (by simp only [Act.put, sa_, s0_, s1_, i64_w, i32_w]; rfl) ?_
  refine pu_ 7 (some 49) HT_ rfl rfl (.inl ⟨by rfl, by intro w'; go_simp; with_reducible rfl⟩) (by simp only [Act.put, sa_, s0_, s1_, i64_w, i32_w]; rfl) ?_
  refine pu_ 9 (some 51) HT_ rfl rfl (.inl ⟨by rfl, by intro w'; go_simp; with_reducible rfl⟩) (by simp only [Act.put, sa_, s0_, s1_, i64_w, i32_w]; rfl) ?_
  refine pu_ 12 (some 54) HT_ rfl rfl (.inl ⟨by rfl, by intro w'; go_simp; with_reducible rfl⟩) (by simp only [Act.put, sa_, s0_, s1_, i64_w, i32_w]; rfl) ?_
  refine tk_ 8 (some 50) HT_ HW_ rfl rfl (.inl ⟨by rfl, by rintro w' ⟨s0, s1, s2, s3, s4, s5, s6, s7⟩; go_simp; with_reducible rfl⟩) hHeld (by simp only [Act.put, sa_, s0_, s1_, i64_w, i32_w]; rfl) ?_
  refine pu_ 10 (some 52) HT_ rfl rfl (.inl ⟨by rfl, by intro w'; go_simp; with_reducible rfl⟩) (by simp only [Act.put, sa_, s0_, s1_, i64_w, i32_w]; rfl) ?_
  refine tk_ 11 (some 53) HT_ HW_ rfl rfl (.inl ⟨by rfl, by rintro w' ⟨s0, s1, s2, s3, s4, s5, s6, s7⟩; go_simp; with_reducible rfl⟩) hHeld (by simp only [Act.put, sa_, s0_, s1_, i64_w, i32_w]; rfl) ?_
  refine tk_ 13 (some 55) HT_ HW_ rfl rfl (.inl ⟨by rfl, by rintro w' ⟨s0, s1, s2, s3, s4, s5, s6, s7⟩; go_simp; with_reducible rfl⟩) hHeld (by simp only [Act.put, sa_, s0_, s1_, i64_w, i32_w]; rfl) ?_
  refine pu_ 14 (some 56) HT_ rfl rfl (.inl ⟨by rfl, by intro w'; go_simp; with_reducible rfl⟩) (by simp only [Act.put, sa_, s0_, s1_, i64_w, i32_w]; rfl) ?_
  refine on_ 15 (some 57) HT_ rfl rfl (fun K hK => ?_)
  refine goes_ Try.func41 (by kernel_rfl) rfl #[.agg #[.bool false, .int .i64 ((rd_T24 l0_1 x4_3).f1), .string ((rd_T24 l0_1 x4_3).f2)], .int .i64 (l0_0.length : Int)] (by rfl) rfl rfl (by (try simp only [List.map_toArray, List.map_cons, List.map_nil]) <;> rfl) ?_
  with_reducible refine (columbariumref14_may.calls false ((rd_T24 l0_1 x4_3).f1) ((rd_T24 l0_1 x4_3).f2) (l0_0.length : Int) false _ A22.out).mono ?_
  rintro e w29 ⟨rfl, hb⟩
  refine ⟨_, rfl, ?_⟩
  have n0_ := am (blk_below (pk BKz1) hb)
  have n1_ := am (below_step (by repeat first | (with_reducible first | exact HB.out | apply ba | apply bn | apply bd | refine bs (by assumption) ?_) | exact HB.out) hb)
  clear BKz1 HB; have BKz1 := n0_; have HB := n1_; clear n0_ n1_; refine hK.out _ _ ⟨(blk_cell BKz1.out 0).trans rfl, (blk_cell BKz1.out 1).trans rfl, ((HB.out.cell (World.block_lt_of_cell? w _ hwz3_0)).trans hwz3_0), ((HB.out.cell (World.block_lt_of_cell? w _ hwz3_1)).trans hwz3_1), ((HB.out.cell (World.block_lt_of_cell? w _ hwz3_2)).trans hwz3_2), ((HB.out.cell (World.block_lt_of_cell? w _ hwz4_0)).trans hwz4_0), ((HB.out.cell (World.block_lt_of_cell? w _ hwz4_1)).trans hwz4_1), ((HB.out.cell (World.block_lt_of_cell? w _ hwz4_2)).trans hwz4_2)⟩ (fun hHeld => ?_)
  clear hK K
  refine norm_ (by show Act.put _ (some 57) _ = _; simp only [Act.put, sa_, s0_, s1_, i64_w, i32_w]; rfl) ?_
  refine pu_ 16 (some 58) HT_ rfl rfl (.inl ⟨by rfl, by intro w'; go_simp; with_reducible rfl⟩) (by simp only [Act.put, sa_, s0_, s1_, i64_w, i32_w]; rfl) ?_
  refine pu_ 17 (some 59) HT_ rfl rfl (.inl ⟨by rfl, by intro w'; go_simp; with_reducible rfl⟩) (by simp only [Act.put, sa_, s0_, s1_, i64_w, i32_w]; rfl) ?_
  refine done_ (done_of HT_.out (by kernel_rfl)) ?_
  try go_wp2
  go_ret
  exact ⟨by first | rfl | (simp <;> rfl) | (simp [*] <;> rfl), by repeat first | (with_reducible first | exact HB.out | apply ba | apply bn | apply bd | refine bs (by assumption) ?_) | exact HB.out⟩
 subst c23
 have H1 : (columbariumref14_Right.l1 k3 (wrap64 (x4_3 + 1)) l0_0 l0_1) = some r := by rw [if_pos rfl] at H; exact H
 clear H
 have H := H1
 clear H1
 have H' := am H
 clear H
 obtain ⟨hcz24_0, hcz24_1⟩ := bc2 BKz1
 obtain ⟨hfz24_0, hfz24_1⟩ := bf2 BKz1
 try go_wp2
 have n0_ := am (blk_drew BKz1.out)
 have n1_ := am (below_drew1 HB.out)
 clear BKz1 HB; have BKz1 := n0_; have HB := n1_; clear n0_ n1_
 have pz3 : 0 ≤ (x4_3 : Int) := of_decide_eq_true (by first | (with_reducible assumption) | assumption)
 have qz3 : x4_3 < (l0_1.length : Int) := of_decide_eq_true (by first | (with_reducible assumption) | assumption)
 obtain ⟨adz3, ez3, hxz3_0, hxz3_1, hxz3_2⟩ := at_T24 HR0_1.out x4_3 pz3 qz3
 have hwz3_2 := hxz3_2
 have hwz3_1 := hxz3_1
 have hwz3_0 := hxz3_0
 (try rw [← Nbq18.out] at hxz3_0); (try rw [← Nbq18.out] at hwz3_0)
 cases ez3
 replace hxz3_0 := (HB.out.cell (World.block_lt_of_cell? w _ hxz3_0)).trans hxz3_0
 replace hxz3_1 := (HB.out.cell (World.block_lt_of_cell? w _ hxz3_1)).trans hxz3_1
 replace hxz3_2 := (HB.out.cell (World.block_lt_of_cell? w _ hxz3_2)).trans hxz3_2
 replace pz3 := eq_true pz3
 replace qz3 := eq_true qz3
 have pz4 : 0 ≤ (x4_3 : Int) := of_decide_eq_true (by first | (with_reducible assumption) | assumption)
 have qz4 : x4_3 < (l0_1.length : Int) := of_decide_eq_true (by first | (with_reducible assumption) | assumption)
 obtain ⟨adz4, ez4, hxz4_0, hxz4_1, hxz4_2⟩ := at_T24 HR0_1.out x4_3 pz4 qz4
 have hwz4_2 := hxz4_2
 have hwz4_1 := hxz4_1
 have hwz4_0 := hxz4_0
 (try rw [← Nbq18.out] at hxz4_0); (try rw [← Nbq18.out] at hwz4_0)
 obtain rfl : adz3 = adz4 := (by injection ez4)
 replace hxz4_0 := (HB.out.cell (World.block_lt_of_cell? w _ hxz4_0)).trans hxz4_0
 replace hxz4_1 := (HB.out.cell (World.block_lt_of_cell? w _ hxz4_1)).trans hxz4_1
 replace hxz4_2 := (HB.out.cell (World.block_lt_of_cell? w _ hxz4_2)).trans hxz4_2
 replace pz4 := eq_true pz4
 replace qz4 := eq_true qz4
 refine start_ (n := 18) (S := fun w' => w'.cell? ⟨gbz1, 0, none⟩ = some (.slice A0_0 l0_0.length c0_0) ∧ w'.cell? ⟨gbz1, 1, none⟩ = some (.slice (some adz3) l0_1.length c0_1) ∧ w'.cell? (adz3.add ((x4_3).toNat * 3)) = some (.bool false) ∧ w'.cell? ⟨(adz3.add ((x4_3).toNat * 3)).block, (adz3.add ((x4_3).toNat * 3)).off + 1, none⟩ = some (.int .i64 ((rd_T24 l0_1 x4_3).f1)) ∧ w'.cell? ⟨(adz3.add ((x4_3).toNat * 3)).block, (adz3.add ((x4_3).toNat * 3)).off + 2, none⟩ = some (.string ((rd_T24 l0_1 x4_3).f2)) ∧ w'.cell? (adz3.add ((x4_3).toNat * 3)) = some (.bool (false)) ∧ w'.cell? ⟨(adz3.add ((x4_3).toNat * 3)).block, (adz3.add ((x4_3).toNat * 3)).off + 1, none⟩ = some (.int .i64 ((rd_T24 l0_1 x4_3).f1)) ∧ w'.cell? ⟨(adz3.add ((x4_3).toNat * 3)).block, (adz3.add ((x4_3).toNat * 3)).off + 2, none⟩ = some (.string ((rd_T24 l0_1 x4_3).f2))) (ds := []) #[false, false, false, false, false, false, false, false, false, false, false, false, false, false, false, false, false, false] (by kernel_rfl) rfl rfl ⟨(blk_cell BKz1.out 0).trans rfl, (blk_cell BKz1.out 1).trans rfl, ((HB.out.cell (World.block_lt_of_cell? w _ hwz3_0)).trans hwz3_0), ((HB.out.cell (World.block_lt_of_cell? w _ hwz3_1)).trans hwz3_1), ((HB.out.cell (World.block_lt_of_cell? w _ hwz3_2)).trans hwz3_2), ((HB.out.cell (World.block_lt_of_cell? w _ hwz4_0)).trans hwz4_0), ((HB.out.cell (World.block_lt_of_cell? w _ hwz4_1)).trans hwz4_1), ((HB.out.cell (World.block_lt_of_cell? w _ hwz4_2)).trans hwz4_2)⟩ (fun hHeld => ?_); refine with_tabW columbariumref14_Right.tab11 columbariumref14_Right.bits11 (fun HT_ HW_ => ?_)
 generalize wr.drew = w25 at BKz1 HB hxz3_0 hxz3_1 hxz3_2 hxz4_0 hxz4_1 hxz4_2 hHeld ⊢
 refine pu_ 0 (some 42) HT_ rfl rfl (.inl ⟨by rfl, by intro w'; go_simp; with_reducible rfl⟩) (by simp only [Act.put, sa_, s0_, s1_, i64_w, i32_w]; rfl) ?_
 refine pu_ 2 (some 44) HT_ rfl rfl (.inl ⟨by rfl, by intro w'; go_simp; with_reducible rfl⟩) (by simp only [Act.put, sa_, s0_, s1_, i64_w, i32_w]; rfl) ?_
 refine tk_ 1 (some 43) HT_ HW_ rfl rfl (.inl ⟨by rfl, by rintro w' ⟨s0, s1, s2, s3, s4, s5, s6, s7⟩; go_simp; with_reducible rfl⟩) hHeld (by simp only [Act.put, sa_, s0_, s1_, i64_w, i32_w]; rfl) ?_
 refine pu_ 3 (some 45) HT_ rfl rfl (.inl ⟨by rfl, by intro w'; go_simp; with_reducible rfl⟩) (by simp only [Act.put, sa_, s0_, s1_, i64_w, i32_w]; rfl) ?_
 refine pu_ 4 (some 46) HT_ rfl rfl (.inl ⟨by rfl, by intro w'; go_simp; with_reducible rfl⟩) (by simp only [Act.put, sa_, s0_, s1_, i64_w, i32_w]; rfl) ?_
 refine tk_ 5 (some 47) HT_ HW_ rfl rfl (.inl ⟨by rfl, by rintro w' ⟨s0, s1, s2, s3, s4, s5, s6, s7⟩; go_simp; with_reducible rfl⟩) hHeld (by simp only [Act.put, sa_, s0_, s1_, i64_w, i32_w]; rfl) ?_
 refine pu_ 6 (some 48) HT_ rfl rfl (.inl ⟨by rfl, by intro w'; go_simp; with_reducible rfl⟩) (by simp only [Act.put, sa_, s0_, s1_, i64_w, i32_w]; rfl) ?_
 refine pu_ 7 (some 49) HT_ rfl rfl (.inl ⟨by rfl, by intro w'; go_simp; with_reducible rfl⟩) (by simp only [Act.put, sa_, s0_, s1_, i64_w, i32_w]; rfl) ?_
 refine pu_ 9 (some 51) HT_ rfl rfl (.inl ⟨by rfl, by intro w'; go_simp; with_reducible rfl⟩) (by simp only [Act.put, sa_, s0_, s1_, i64_w, i32_w]; rfl) ?_
 refine pu_ 12 (some 54) HT_ rfl rfl (.inl ⟨by rfl, by intro w'; go_simp; with_reducible rfl⟩) (by simp only [Act.put, sa_, s0_, s1_, i64_w, i32_w]; rfl) ?_
 refine tk_ 8 (some 50) HT_ HW_ rfl rfl (.inl ⟨by rfl, by rintro w' ⟨s0, s1, s2, s3, s4, s5, s6, s7⟩; go_simp; with_reducible rfl⟩) hHeld (by simp only [Act.put, sa_, s0_, s1_, i64_w, i32_w]; rfl) ?_
 refine pu_ 10 (some 52) HT_ rfl rfl (.inl ⟨by rfl, by intro w'; go_simp; with_reducible rfl⟩) (by simp only [Act.put, sa_, s0_, s1_, i64_w, i32_w]; rfl) ?_
 refine tk_ 11 (some 53) HT_ HW_ rfl rfl (.inl ⟨by rfl, by rintro w' ⟨s0, s1, s2, s3, s4, s5, s6, s7⟩; go_simp; with_reducible rfl⟩) hHeld (by simp only [Act.put, sa_, s0_, s1_, i64_w, i32_w]; rfl) ?_
 refine tk_ 13 (some 55) HT_ HW_ rfl rfl (.inl ⟨by rfl, by rintro w' ⟨s0, s1, s2, s3, s4, s5, s6, s7⟩; go_simp; with_reducible rfl⟩) hHeld (by simp only [Act.put, sa_, s0_, s1_, i64_w, i32_w]; rfl) ?_
 refine pu_ 14 (some 56) HT_ rfl rfl (.inl ⟨by rfl, by intro w'; go_simp; with_reducible rfl⟩) (by simp only [Act.put, sa_, s0_, s1_, i64_w, i32_w]; rfl) ?_
 refine on_ 15 (some 57) HT_ rfl rfl (fun K hK => ?_)
 refine goes_ Try.func41 (by kernel_rfl) rfl #[.agg #[.bool false, .int .i64 ((rd_T24 l0_1 x4_3).f1), .string ((rd_T24 l0_1 x4_3).f2)], .int .i64 (l0_0.length : Int)] (by rfl) rfl rfl (by (try simp only [List.map_toArray, List.map_cons, List.map_nil]) <;> rfl) ?_
 with_reducible refine (columbariumref14_may.calls false ((rd_T24 l0_1 x4_3).f1) ((rd_T24 l0_1 x4_3).f2) (l0_0.length : Int) true _ A22.out).mono ?_
 rintro e w26 ⟨rfl, hb⟩
 refine ⟨_, rfl, ?_⟩
 have n0_ := am (blk_below (pk BKz1) hb)
 have n1_ := am (below_step (by repeat first | (with_reducible first | exact HB.out | apply ba | apply bn | apply bd | refine bs (by assumption) ?_) | exact HB.out) hb)
 clear BKz1 HB; have BKz1 := n0_; have HB := n1_; clear n0_ n1_; refine hK.out _ _ ⟨(blk_cell BKz1.out 0).trans rfl, (blk_cell BKz1.out 1).trans rfl, ((HB.out.cell (World.block_lt_of_cell? w _ hwz3_0)).trans hwz3_0), ((HB.out.cell (World.block_lt_of_cell? w _ hwz3_1)).trans hwz3_1), ((HB.out.cell (World.block_lt_of_cell? w _ hwz3_2)).trans hwz3_2), ((HB.out.cell (World.block_lt_of_cell? w _ hwz4_0)).trans hwz4_0), ((HB.out.cell (World.block_lt_of_cell? w _ hwz4_1)).trans hwz4_1), ((HB.out.cell (World.block_lt_of_cell? w _ hwz4_2)).trans hwz4_2)⟩ (fun hHeld => ?_)
 clear hK K
 refine norm_ (by show Act.put _ (some 57) _ = _; simp only [Act.put, sa_, s0_, s1_, i64_w, i32_w]; rfl) ?_
 refine pu_ 16 (some 58) HT_ rfl rfl (.inl ⟨by rfl, by intro w'; go_simp; with_reducible rfl⟩) (by simp only [Act.put, sa_, s0_, s1_, i64_w, i32_w]; rfl) ?_
 refine pu_ 17 (some 59) HT_ rfl rfl (.inl ⟨by rfl, by intro w'; go_simp; with_reducible rfl⟩) (by simp only [Act.put, sa_, s0_, s1_, i64_w, i32_w]; rfl) ?_
 refine done_ (done_of HT_.out (by kernel_rfl)) ?_
 try go_wp2
 go_roundg k3
 case measure => have := HJ1.out; have := HK2.out; have := HK3.out; omega
 case rel => exact ⟨(wrap64 (x4_3 + 1)), (by first | rfl | (simp; done) | (simp [*]; done)), H', ⟨by have := HJ1.out; have := HK2.out; have := HK3.out; omega⟩, ⟨by (with_reducible repeat (first | refine blk_drewN ?_ _ | refine blk_drew ?_ | refine blk_alloc ?_ _)); exact BKz1.out⟩, ⟨by repeat first | (with_reducible first | exact HB.out | apply ba | apply bn | apply bd | refine bs (by assumption) ?_) | exact HB.out⟩⟩

end Go.Proofs.Ytcfinlmocgbnbaa.Pr
