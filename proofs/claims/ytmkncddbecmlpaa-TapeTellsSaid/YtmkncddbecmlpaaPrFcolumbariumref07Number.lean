-- Written by wip/tools/xprint.py, a patched run of the kit's print: not typed by hand.
import Derived.Test.YtmkncddbecmlpaaPr0
import Derived.Test.YtmkncddbecmlpaaPrFcolumbariumref07Right
import Derived.Test.YtmkncddbecmlpaaPrFcolumbariumref07Take
namespace Go.Proofs.Ytmkncddbecmlpaa.Pr
open Go.RowKit Go.Proofs.YtmkncddbecmlpaaW.PrintWords Go.Proofs.YtmkncddbecmlpaaW.PrintLast Go.Proofs.YtmkncddbecmlpaaW.PrintMore
attribute [local go_sem] max2_int min2_int max_two min_two max_three min_three max_four min_four   -- for this text's walks alone
set_option linter.unusedVariables false
set_option linter.unusedSimpArgs false

/-! ### columbariumref07_Number: function 24 -/
def columbariumref07_Number.j0 : Nat → Int → Bool → ByteArray → Int → Option (Int × ByteArray × Int × Int)
 | 0, _, _, _, _ => none
 | k + 1, x1, x20, x240002000, x240002001 => if x20 = true then (some (0, x240002000, x240002001, 1)) else ((columbariumref07_Take.f k x240002000 x240002001 2).bind fun bt240004 => (if bt240004.2.2.2 = 0 then (if 0 < (bt240004.1.size : Int) then (if 1 < (bt240004.1.size : Int) then (if x1 = 0 then (none) else (some (Int.tmod (wrap64 ((wrap64 (256 * (wrap64 (bt bt240004.1 0)))) + (wrap64 (bt bt240004.1 1)))) x1, bt240004.2.1, bt240004.2.2.1, 0))) else (none)) else (none)) else (some (0, x240002000, x240002001, bt240004.2.2.2))))
def columbariumref07_Number.f (k : Nat) (a0_0 : ByteArray) (a0_1 : Int) (a1 : Int) : Option (Int × ByteArray × Int × Int) := (columbariumref07_Right.f a0_0 a0_1).bind fun t240003 => (if t240003 = true then (if a1 < 1 then (columbariumref07_Number.j0 k a1 true a0_0 a0_1) else (columbariumref07_Number.j0 k a1 (decide (a1 > 65536)) a0_0 a0_1)) else (columbariumref07_Number.j0 k a1 true a0_0 a0_1))
theorem columbariumref07_Number.mono_l : ∀ k, (∀ y0 y1 y2 y3, LeO (columbariumref07_Number.j0 k y0 y1 y2 y3) (columbariumref07_Number.j0 (k + 1) y0 y1 y2 y3))
 | 0 => fun _ _ _ _ r h => by simp [columbariumref07_Number.j0] at h
 | k + 1 => by
  have ih0 := columbariumref07_Number.mono_l k
  ·intro y0 y1 y2 y3
   unfold columbariumref07_Number.j0
   repeat' first
   | (with_reducible exact ih0 _ _ _ _)
   | (with_reducible exact columbariumref07_Take.mono _ _ _ _)
   | (with_reducible exact LeO.refl _)
   | (with_reducible exact LeO.none _)
   | (with_reducible refine LeO.ite ?_ ?_)
   | (with_reducible refine LeO.bind ?_ (fun _ => ?_))
   | exact ih0 _ _ _ _
   | exact columbariumref07_Take.mono _ _ _ _
   | exact LeO.none _
   | refine LeO.ite ?_ ?_
   | refine LeO.bind ?_ (fun _ => ?_)
theorem columbariumref07_Number.mono : ∀ a0 a1 a2 k, LeO (columbariumref07_Number.f k a0 a1 a2) (columbariumref07_Number.f (k + 1) a0 a1 a2) := by
 intro a0 a1 a2 k
 have ih0 := columbariumref07_Number.mono_l k
 unfold columbariumref07_Number.f
 repeat' first
   | (with_reducible exact ih0 _ _ _ _)
   | (with_reducible exact columbariumref07_Take.mono _ _ _ _)
   | (with_reducible exact LeO.refl _)
   | (with_reducible exact LeO.none _)
   | (with_reducible refine LeO.ite ?_ ?_)
   | (with_reducible refine LeO.bind ?_ (fun _ => ?_))
   | exact ih0 _ _ _ _
   | exact columbariumref07_Take.mono _ _ _ _
   | exact LeO.none _
   | refine LeO.ite ?_ ?_
   | refine LeO.bind ?_ (fun _ => ?_)
def columbariumref07_Number.T6 : Bool × List (List Nat × List Nat) := (true, [([], []), ([0], [0]), ([1], [1]), ([2], [2]), ([], []), ([4], [4]), ([5], [5]), ([3, 6], [3, 6]), ([], []), ([7, 8], [7, 8]), ([], []), ([9, 0, 1, 2, 3, 4, 5, 6, 7, 8, 9], [9]), ([10, 11, 0, 1, 2, 3, 4, 5, 6, 7, 8, 9, 10, 11], [10]), ([12, 0, 1, 2, 3, 4, 5, 6, 7, 8, 9, 10, 11, 12], [])])
def columbariumref07_Number.B6 : List Nat := [0, 1, 3, 7, 0, 16, 48, 127, 0, 511, 0, 1023, 4095, 8191]
theorem columbariumref07_Number.tab6 : rtab .any (opsOf Try.f24 6) = columbariumref07_Number.T6 := by kernel_rfl
theorem columbariumref07_Number.bits6 : waitsOk columbariumref07_Number.T6.2 columbariumref07_Number.B6 = true := by kernel_rfl
set_option maxHeartbeats 8000000 in
set_option maxRecDepth 100000 in
theorem columbariumref07_Number.calls (k : Nat) (a0_0 : ByteArray) (a0_1 : Int) (a1 : Int) (r1 : Int) (r2 : ByteArray) (r3 : Int) (r4 : Int) (w : World) (h : columbariumref07_Number.f k a0_0 a0_1 a1 = some (r1, r2, r3, r4)) :
  Calls Try.prog 24 #[.agg #[.string a0_0, .int .i64 a0_1], .int .i64 a1] w fun e w' => e = .returned (.tuple #[.int .i64 r1, .agg #[.string r2, .int .i64 r3], .int .i64 r4]) ∧ Below w.heap.size w w' := by
 have hu23 := Try.underlying23
 have HB := Aside0.mk (Below.refl w.heap.size w)
 have H : ((columbariumref07_Right.f a0_0 a0_1).bind fun t240003 => (if t240003 = true then (if a1 < 1 then (columbariumref07_Number.j0 k a1 true a0_0 a0_1) else (columbariumref07_Number.j0 k a1 (decide (a1 > 65536)) a0_0 a0_1)) else (columbariumref07_Number.j0 k a1 true a0_0 a0_1))) = some (r1, r2, r3, r4) := h
 clear h
 have HC3 := Aside0.mk H
 clear H
 go_enter Try.func24, Try.ntmps24
 go_upto_region 1 with (first | ((with_reducible refine gate_dst (N := 2) rfl ?_); refine box_event ?hg (N := 2) ?hd (cs := #[.string a0_0, .int .i64 a0_1]) (t := 23) ?hr ?_; (case hd => rfl); (case hg => rfl); (case hr => first | (go_simp; done) | (go_simp; rfl)); intro gb240001 hg w4 hbox hb; have n0_ := Aside0.mk (below_step (by repeat (first | (with_reducible first | exact HB.out | apply below_alloc | apply pw_below_drewN | apply below_drew1) | exact HB.out)) hb); have n1_ := Aside0.mk (hbox); have n2_ := Aside0.mk ((by rw [hg]; exact (below_size (by repeat (first | (with_reducible first | exact HB.out | apply below_alloc | apply pw_below_drewN | apply below_drew1) | exact HB.out))) : w.heap.size ≤ gb240001)); have n3_ := Aside0.mk ((by rw [hg]; exact (below_size (by repeat (first | (with_reducible first | exact HB.out | apply below_alloc | apply pw_below_drewN | apply below_drew1) | exact HB.out))) : w.heap.size ≤ gb240001)); clear HB; have HB := n0_; have BK240001 := n1_; have GW240001 := n2_; have GE240001 := n3_; clear n0_ n1_ n2_ n3_; clear hb hbox hg) | ((with_reducible refine gate_dst (N := 5) rfl ?_); refine box_event ?hg (N := 5) ?hd (cs := #[.string (⟨#[]⟩ : ByteArray), .int .i64 0]) (t := 23) ?hr ?_; (case hd => rfl); (case hg => rfl); (case hr => first | (go_simp; done) | (go_simp; rfl)); intro gb240002 hg w5 hbox hb; have n0_ := Aside0.mk (blk_below (g := gb240001) (o := .cells #[.string a0_0, .int .i64 a0_1] 23 (0, 0)) (by (with_reducible repeat (first | refine blk_drewN ?_ _ | refine blk_drew ?_ | refine blk_alloc ?_ _)); exact BK240001.out) hb); have n1_ := Aside0.mk (below_step (by repeat (first | (with_reducible first | exact HB.out | apply below_alloc | apply pw_below_drewN | apply below_drew1 | refine below_set ?_ GE240001.out) | exact HB.out)) hb); have n2_ := Aside0.mk (hbox); have n3_ := Aside0.mk ((by rw [hg]; exact (below_size (by repeat (first | (with_reducible first | exact HB.out | apply below_alloc | apply pw_below_drewN | apply below_drew1 | refine below_set ?_ GE240001.out) | exact HB.out))) : w.heap.size ≤ gb240002)); have n4_ := Aside0.mk ((by rw [hg]; exact (below_size (by repeat (first | (with_reducible first | exact HB.out | apply below_alloc | apply pw_below_drewN | apply below_drew1 | refine below_set ?_ GE240001.out) | exact HB.out))) : w.heap.size ≤ gb240002)); have n5_ := Aside0.mk ((by rw [hg]; exact Nat.ne_of_lt (blk_lt (g := gb240001) (o := .cells #[.string a0_0, .int .i64 a0_1] 23 (0, 0)) (by (with_reducible repeat (first | refine blk_drewN ?_ _ | refine blk_drew ?_ | refine blk_alloc ?_ _)); exact BK240001.out)) : gb240001 ≠ gb240002)); have n6_ := Aside0.mk ((by rw [hg]; exact Nat.ne_of_gt (blk_lt (g := gb240001) (o := .cells #[.string a0_0, .int .i64 a0_1] 23 (0, 0)) (by (with_reducible repeat (first | refine blk_drewN ?_ _ | refine blk_drew ?_ | refine blk_alloc ?_ _)); exact BK240001.out)) : gb240002 ≠ gb240001)); clear BK240001; clear HB; have BK240001 := n0_; have HB := n1_; have BK240002 := n2_; have GW240002 := n3_; have GE240002 := n4_; have NB240001_240002 := n5_; have NB240002_240001 := n6_; clear n0_ n1_ n2_ n3_ n4_ n5_ n6_; clear hb hbox hg))
 (try simp only [Act.put, List.setIfInBounds_toArray, List.set_cons_zero, List.set_cons_succ])
 go_cut [20] (fun v20 wc => ∃ (kq : Nat) (x20_2 : Bool), v20 = .bool x20_2 ∧ Aside0 (columbariumref07_Number.j0 kq a1 x20_2 a0_0 a0_1 = some (r1, r2, r3, r4)) ∧ Aside0 (kq ≤ k) ∧ Aside0 (wc.heap[gb240001]? = some (.cells #[.string a0_0, .int .i64 a0_1] 23 (0, 0))) ∧ Aside0 (wc.heap[gb240002]? = some (.cells #[.string (⟨#[]⟩ : ByteArray), .int .i64 0] 23 (0, 0))) ∧ Aside0 (Below w.heap.size w wc))
 case first =>
  have H := HC3.out
  clear HC3
  replace H := Option.bind_eq_some_iff.mp H
  obtain ⟨t240003, A60, H⟩ := H
  replace H : (if t240003 = true then (if a1 < 1 then (columbariumref07_Number.j0 k a1 true a0_0 a0_1) else (columbariumref07_Number.j0 k a1 (decide (a1 > 65536)) a0_0 a0_1)) else (columbariumref07_Number.j0 k a1 true a0_0 a0_1)) = some (r1, r2, r3, r4) := H
  have A6 := Aside0.mk A60
  clear A60
  by_cases c7 : t240003 = true
  ·subst c7
   have H1 : (if a1 < 1 then (columbariumref07_Number.j0 k a1 true a0_0 a0_1) else (columbariumref07_Number.j0 k a1 (decide (a1 > 65536)) a0_0 a0_1)) = some (r1, r2, r3, r4) := by rw [if_pos rfl] at H; exact H
   clear H
   have H := H1
   clear H1
   by_cases c8 : a1 < 1
   ·rw [if_pos c8] at H
    have c8b0 : decide (a1 < 1) = true := decide_eq_true c8
    clear c8
    (first | rw [c8b0] | rw [c8b1] | (simp only [i64_w, i32_w]; rw [c8b0]) | skip)
    have H' := Aside0.mk H
    clear H
    have hnb9 := NB240001_240002.out
    have hnc9 := NB240002_240001.out
    have hcz10_0 : w5.cell? ⟨gb240001, 0, none⟩ = some (.string a0_0) := (blk_cell BK240001.out 0).trans rfl
    have hcz10_1 : w5.cell? ⟨gb240001, 1, none⟩ = some (.int .i64 a0_1) := (blk_cell BK240001.out 1).trans rfl
    have hfz10_0 := blk_frozen BK240001.out 0
    have hfz10_1 := blk_frozen BK240001.out 1
    go_wp2_with (first | ((with_reducible refine gate_callee (f := 17) rfl ?_); refine goesL_ (some 11) rfl rfl Try.func17 (by kernel_rfl) rfl #[.agg #[.string a0_0, .int .i64 a0_1]] rfl (by (try simp only [List.map_toArray, List.map_cons, List.map_nil]); first | done | rfl | (simp only [List.length_drop, List.length_take]; rfl)) ?_; (with_reducible refine (columbariumref07_Right.calls a0_0 a0_1 true _ A6.out).mono ?_); rintro e w11 ⟨rfl, hb⟩; refine ⟨_, rfl, ?_⟩; have n0_ := Aside0.mk (blk_below (g := gb240001) (o := .cells #[.string a0_0, .int .i64 a0_1] 23 (0, 0)) (by (with_reducible repeat (first | refine blk_drewN ?_ _ | refine blk_drew ?_ | refine blk_alloc ?_ _)); exact BK240001.out) hb); have n1_ := Aside0.mk (blk_below (g := gb240002) (o := .cells #[.string (⟨#[]⟩ : ByteArray), .int .i64 0] 23 (0, 0)) (by (with_reducible repeat (first | refine blk_drewN ?_ _ | refine blk_drew ?_ | refine blk_alloc ?_ _)); exact BK240002.out) hb); have n2_ := Aside0.mk (below_step (by repeat (first | (with_reducible first | exact HB.out | apply below_alloc | apply pw_below_drewN | apply below_drew1 | refine below_set ?_ GE240001.out | refine below_set ?_ GE240002.out) | exact HB.out)) hb); clear BK240001; clear BK240002; clear HB; have BK240001 := n0_; have BK240002 := n1_; have HB := n2_; clear n0_ n1_ n2_; (try clear hb); (try clear hb2); (try clear hk); (try clear hi)))
    go_meet
    case rel => exact ⟨_, (true), (by first | rfl | (simp; done) | (simp [*]; done)), H', ⟨by first | omega | exact Nat.le_refl _⟩, ⟨by (with_reducible repeat (first | refine blk_drewN ?_ _ | refine blk_drew ?_ | refine blk_alloc ?_ _)); exact BK240001.out⟩, ⟨by (with_reducible repeat (first | refine blk_drewN ?_ _ | refine blk_drew ?_ | refine blk_alloc ?_ _)); exact BK240002.out⟩, ⟨by repeat (first | (with_reducible first | exact HB.out | apply below_alloc | apply pw_below_drewN | apply below_drew1 | refine below_set ?_ GE240001.out | refine below_set ?_ GE240002.out) | exact HB.out)⟩⟩
   ·rw [if_neg c8] at H
    have c8b0 : decide (a1 < 1) = false := decide_eq_false c8
    clear c8
    (first | rw [c8b0] | rw [c8b1] | (simp only [i64_w, i32_w]; rw [c8b0]) | skip)
    have H' := Aside0.mk H
    clear H
    have hnb12 := NB240001_240002.out
    have hnc12 := NB240002_240001.out
    have hcz13_0 : w5.cell? ⟨gb240001, 0, none⟩ = some (.string a0_0) := (blk_cell BK240001.out 0).trans rfl
    have hcz13_1 : w5.cell? ⟨gb240001, 1, none⟩ = some (.int .i64 a0_1) := (blk_cell BK240001.out 1).trans rfl
    have hfz13_0 := blk_frozen BK240001.out 0
    have hfz13_1 := blk_frozen BK240001.out 1
    go_wp2_with (first | ((with_reducible refine gate_callee (f := 17) rfl ?_); refine goesL_ (some 11) rfl rfl Try.func17 (by kernel_rfl) rfl #[.agg #[.string a0_0, .int .i64 a0_1]] rfl (by (try simp only [List.map_toArray, List.map_cons, List.map_nil]); first | done | rfl | (simp only [List.length_drop, List.length_take]; rfl)) ?_; (with_reducible refine (columbariumref07_Right.calls a0_0 a0_1 true _ A6.out).mono ?_); rintro e w14 ⟨rfl, hb⟩; refine ⟨_, rfl, ?_⟩; have n0_ := Aside0.mk (blk_below (g := gb240001) (o := .cells #[.string a0_0, .int .i64 a0_1] 23 (0, 0)) (by (with_reducible repeat (first | refine blk_drewN ?_ _ | refine blk_drew ?_ | refine blk_alloc ?_ _)); exact BK240001.out) hb); have n1_ := Aside0.mk (blk_below (g := gb240002) (o := .cells #[.string (⟨#[]⟩ : ByteArray), .int .i64 0] 23 (0, 0)) (by (with_reducible repeat (first | refine blk_drewN ?_ _ | refine blk_drew ?_ | refine blk_alloc ?_ _)); exact BK240002.out) hb); have n2_ := Aside0.mk (below_step (by repeat (first | (with_reducible first | exact HB.out | apply below_alloc | apply pw_below_drewN | apply below_drew1 | refine below_set ?_ GE240001.out | refine below_set ?_ GE240002.out) | exact HB.out)) hb); clear BK240001; clear BK240002; clear HB; have BK240001 := n0_; have BK240002 := n1_; have HB := n2_; clear n0_ n1_ n2_; (try clear hb); (try clear hb2); (try clear hk); (try clear hi)))
    go_meet
    case rel => exact ⟨_, (decide (a1 > 65536)), (by first | rfl | (simp; done) | (simp [*]; done)), H', ⟨by first | omega | exact Nat.le_refl _⟩, ⟨by (with_reducible repeat (first | refine blk_drewN ?_ _ | refine blk_drew ?_ | refine blk_alloc ?_ _)); exact BK240001.out⟩, ⟨by (with_reducible repeat (first | refine blk_drewN ?_ _ | refine blk_drew ?_ | refine blk_alloc ?_ _)); exact BK240002.out⟩, ⟨by repeat (first | (with_reducible first | exact HB.out | apply below_alloc | apply pw_below_drewN | apply below_drew1 | refine below_set ?_ GE240001.out | refine below_set ?_ GE240002.out) | exact HB.out)⟩⟩
  ·replace c7 := Bool.eq_false_iff.mpr c7
   subst c7
   have H1 : (columbariumref07_Number.j0 k a1 true a0_0 a0_1) = some (r1, r2, r3, r4) := by rw [if_neg (show ¬ (false = true) by decide)] at H; exact H
   clear H
   have H := H1
   clear H1
   have H' := Aside0.mk H
   clear H
   have hnb15 := NB240001_240002.out
   have hnc15 := NB240002_240001.out
   have hcz16_0 : w5.cell? ⟨gb240001, 0, none⟩ = some (.string a0_0) := (blk_cell BK240001.out 0).trans rfl
   have hcz16_1 : w5.cell? ⟨gb240001, 1, none⟩ = some (.int .i64 a0_1) := (blk_cell BK240001.out 1).trans rfl
   have hfz16_0 := blk_frozen BK240001.out 0
   have hfz16_1 := blk_frozen BK240001.out 1
   go_wp2_with (first | ((with_reducible refine gate_callee (f := 17) rfl ?_); refine goesL_ (some 11) rfl rfl Try.func17 (by kernel_rfl) rfl #[.agg #[.string a0_0, .int .i64 a0_1]] rfl (by (try simp only [List.map_toArray, List.map_cons, List.map_nil]); first | done | rfl | (simp only [List.length_drop, List.length_take]; rfl)) ?_; (with_reducible refine (columbariumref07_Right.calls a0_0 a0_1 false _ A6.out).mono ?_); rintro e w17 ⟨rfl, hb⟩; refine ⟨_, rfl, ?_⟩; have n0_ := Aside0.mk (blk_below (g := gb240001) (o := .cells #[.string a0_0, .int .i64 a0_1] 23 (0, 0)) (by (with_reducible repeat (first | refine blk_drewN ?_ _ | refine blk_drew ?_ | refine blk_alloc ?_ _)); exact BK240001.out) hb); have n1_ := Aside0.mk (blk_below (g := gb240002) (o := .cells #[.string (⟨#[]⟩ : ByteArray), .int .i64 0] 23 (0, 0)) (by (with_reducible repeat (first | refine blk_drewN ?_ _ | refine blk_drew ?_ | refine blk_alloc ?_ _)); exact BK240002.out) hb); have n2_ := Aside0.mk (below_step (by repeat (first | (with_reducible first | exact HB.out | apply below_alloc | apply pw_below_drewN | apply below_drew1 | refine below_set ?_ GE240001.out | refine below_set ?_ GE240002.out) | exact HB.out)) hb); clear BK240001; clear BK240002; clear HB; have BK240001 := n0_; have BK240002 := n1_; have HB := n2_; clear n0_ n1_ n2_; (try clear hb); (try clear hb2); (try clear hk); (try clear hi)))
   go_meet
   case rel => exact ⟨_, (true), (by first | rfl | (simp; done) | (simp [*]; done)), H', ⟨by first | omega | exact Nat.le_refl _⟩, ⟨by (with_reducible repeat (first | refine blk_drewN ?_ _ | refine blk_drew ?_ | refine blk_alloc ?_ _)); exact BK240001.out⟩, ⟨by (with_reducible repeat (first | refine blk_drewN ?_ _ | refine blk_drew ?_ | refine blk_alloc ?_ _)); exact BK240002.out⟩, ⟨by repeat (first | (with_reducible first | exact HB.out | apply below_alloc | apply pw_below_drewN | apply below_drew1 | refine below_set ?_ GE240001.out | refine below_set ?_ GE240002.out) | exact HB.out)⟩⟩
 case rest =>
  clear HC3
  try clear c1
  try clear c2
  try clear p2
  try clear c7
  try clear c8
  try clear c8b0
  try clear c8b1
  try clear c9
  try clear c12
  try clear c15
  try clear c17
  try clear hcz10_0
  try clear hcz10_1
  try clear hcz13_0
  try clear hcz13_1
  try clear hcz16_0
  try clear hcz16_1
  try clear hfz10_0
  try clear hfz10_1
  try clear hfz13_0
  try clear hfz13_1
  try clear hfz16_0
  try clear hfz16_1
  obtain ⟨kq, x20_2, rfl, HA, HJ2, BK240001, BK240002, HB⟩ := hcut
  cases kq with
  | zero => exact absurd HA.out (by simp [columbariumref07_Number.j0])
  | succ kj2 =>
   have H := HA.out
   clear HA
   simp only [columbariumref07_Number.j0] at H
   by_cases c18 : x20_2 = true
   ·subst c18
    have H1 : (some (0, a0_0, a0_1, 1)) = some (r1, r2, r3, r4) := by rw [if_pos rfl] at H; exact H
    clear H
    have H := H1
    clear H1
    simp only [Option.some.injEq, Prod.mk.injEq] at H
    obtain ⟨rfl, rfl, rfl, rfl⟩ := H
    try go_wp2
    have n0_ := Aside0.mk (blk_drew BK240001.out)
    have n1_ := Aside0.mk (blk_drew BK240002.out)
    have n2_ := Aside0.mk (below_drew1 HB.out)
    clear BK240001
    clear BK240002
    clear HB
    have BK240001 := n0_
    have BK240002 := n1_
    have HB := n2_
    clear n0_ n1_ n2_
    refine start_ (n := 4) (S := fun w' => w'.cell? ⟨gb240001, 0, none⟩ = some (.string a0_0) ∧ w'.cell? ⟨gb240001, 1, none⟩ = some (.int .i64 a0_1)) (ds := []) #[false, false, false, false] (by kernel_rfl) rfl rfl ⟨(blk_cell BK240001.out 0).trans rfl, (blk_cell BK240001.out 1).trans rfl⟩ (fun hHeld => ?_)
    generalize wc.drew = w19 at BK240001 BK240002 HB hHeld ⊢
    refine pure_ (i := 1) (N := some 4) (v := ?_) (a' := ?_) #[false, true, false, false] rfl rfl (by kernel_rfl) (fun _ _ _ h => h) (Or.inl ⟨by rfl, ?_⟩) ?_ ?_
    rotate_left
    ·intro w'
     go_simp
     with_reducible rfl
    rotate_left
    ·simp only [Act.put, List.setIfInBounds_toArray, List.set_cons_zero, List.set_cons_succ, i64_w, i32_w]
     rfl
    refine take_ (i := 0) (N := some 21) (v := ?_) (a' := ?_) #[true, true, false, false] rfl rfl (by kernel_rfl) (fun _ _ _ h => h) (Or.inl ⟨by rfl, ?_⟩) hHeld ?_ ?_
    rotate_left
    ·rintro w' ⟨s0, s1⟩
     go_simp
     with_reducible rfl
    rotate_left
    ·simp only [Act.put, List.setIfInBounds_toArray, List.set_cons_zero, List.set_cons_succ, i64_w, i32_w]
     rfl
    refine one_ (i := 2) (N := none) #[true, true, true, false] rfl rfl (by kernel_rfl) (by decide) (fun K hK => ?_)
    have hs20 : w19.cell? ⟨gb240002, 0, none⟩ = some (.string (⟨#[]⟩ : ByteArray)) := (blk_cell BK240002.out 0).trans rfl
    have hfs20 := blk_frozen BK240002.out 0
    have hns20_0 := NB240001_240002.out
    have hms20_0 := NB240002_240001.out
    have hs21 : w19.cell? ⟨gb240002, 1, none⟩ = some (.int .i64 0) := (blk_cell BK240002.out 1).trans rfl
    have hfs21 := blk_frozen BK240002.out 1
    have hns21_0 := NB240001_240002.out
    have hms21_0 := NB240002_240001.out
    refine skip_ (w1 := ?_) (by rfl) rfl ?_ ?_
    rotate_left
    ·go_simp
     rfl
    refine hK.out _ _ ⟨((cell_far (p := ⟨gb240002, _, none⟩) NB240001_240002.out _).trans (((cell_far (p := ⟨gb240002, _, none⟩) NB240001_240002.out _).trans (hHeld.1)))), ((cell_far (p := ⟨gb240002, _, none⟩) NB240001_240002.out _).trans (((cell_far (p := ⟨gb240002, _, none⟩) NB240001_240002.out _).trans (hHeld.2))))⟩ (fun hHeld => ?_)
    clear hK K
    refine pure_ (i := 3) (N := some 6) (v := ?_) (a' := ?_) #[true, true, true, true] rfl rfl (by kernel_rfl) (fun _ _ _ h => h) (Or.inl ⟨by rfl, ?_⟩) ?_ ?_
    rotate_left
    ·intro w'
     go_simp
     with_reducible rfl
    rotate_left
    ·simp only [Act.put, List.setIfInBounds_toArray, List.set_cons_zero, List.set_cons_succ, i64_w, i32_w]
     rfl
    refine done_ (by kernel_rfl) ?_
    try go_wp2
    refine bodyPost_ret (results_list (rs := [.tmp 4, .cell 5 23, .tmp 6]) rfl (by simp) (.tmp (.cell gb240002 23 #[.string a0_0, .int .i64 a0_1] (0, 0) _ rfl (by (with_reducible repeat (first | refine blk_drewN ?_ _ | refine blk_drew ?_ | refine blk_alloc ?_ _)); refine blk_put (cs := #[.string a0_0, .int .i64 0]) ?_ 1 _ rfl; (with_reducible repeat (first | refine blk_drewN ?_ _ | refine blk_drew ?_ | refine blk_alloc ?_ _)); refine blk_put (cs := #[.string (⟨#[]⟩ : ByteArray), .int .i64 0]) ?_ 0 _ rfl; (with_reducible repeat (first | refine blk_drewN ?_ _ | refine blk_drew ?_ | refine blk_alloc ?_ _)); exact BK240002.out) Try.underlying23 rfl (by kernel_rfl) (.tmp .nil)))) rfl ?_
    exact ⟨by first | rfl | (simp [errW_none, errW_some] <;> rfl) | (simp [*, errW_none, errW_some] <;> rfl), by repeat (first | (with_reducible first | exact HB.out | apply below_alloc | apply pw_below_drewN | apply below_drew1 | refine below_set ?_ GE240001.out | refine below_set ?_ GE240002.out) | exact HB.out)⟩
   ·replace c18 := Bool.eq_false_iff.mpr c18
    subst c18
    have H1 : ((columbariumref07_Take.f kj2 a0_0 a0_1 2).bind fun bt240004 => (if bt240004.2.2.2 = 0 then (if 0 < (bt240004.1.size : Int) then (if 1 < (bt240004.1.size : Int) then (if a1 = 0 then (none) else (some (Int.tmod (wrap64 ((wrap64 (256 * (wrap64 (bt bt240004.1 0)))) + (wrap64 (bt bt240004.1 1)))) a1, bt240004.2.1, bt240004.2.2.1, 0))) else (none)) else (none)) else (some (0, a0_0, a0_1, bt240004.2.2.2)))) = some (r1, r2, r3, r4) := by rw [if_neg (show ¬ (false = true) by decide)] at H; exact H
    clear H
    have H := H1
    clear H1
    replace H := Option.bind_eq_some_iff.mp H
    obtain ⟨⟨t240004, t240005, t240006, t240007⟩, A220, H⟩ := H
    replace H : (if t240007 = 0 then (if 0 < (t240004.size : Int) then (if 1 < (t240004.size : Int) then (if a1 = 0 then (none) else (some (Int.tmod (wrap64 ((wrap64 (256 * (wrap64 (bt t240004 0)))) + (wrap64 (bt t240004 1)))) a1, t240005, t240006, 0))) else (none)) else (none)) else (some (0, a0_0, a0_1, t240007))) = some (r1, r2, r3, r4) := H
    have A22 := Aside0.mk A220
    clear A220
    by_cases c23 : t240007 = 0
    ·rw [if_pos c23] at H
     have c23b0 : (t240007 == 0) = true := beq_iff_eq.mpr c23
     have c23b1 : (t240007 != 0) = false := bne_eq_false_iff_eq.mpr c23
     clear c23
     by_cases c24 : 0 < (t240004.size : Int)
     ·rw [if_pos c24] at H
      have c24b0 : decide (0 < (t240004.size : Int)) = true := decide_eq_true c24
      have c24b1 : decide (0 < t240004.size) = true := decide_eq_true (by omega)
      clear c24
      by_cases c26 : 1 < (t240004.size : Int)
      ·rw [if_pos c26] at H
       have c26b0 : decide (1 < (t240004.size : Int)) = true := decide_eq_true c26
       have c26b1 : decide (1 < t240004.size) = true := decide_eq_true (by omega)
       clear c26
       by_cases c28 : a1 = 0
       ·rw [if_pos c28] at H
        exact absurd H (by simp)
       ·rw [if_neg c28] at H
        have c28b0 : (a1 == 0) = false := beq_eq_false_iff_ne.mpr c28
        have c28b1 : (a1 != 0) = true := bne_iff_ne.mpr c28
        simp only [Option.some.injEq, Prod.mk.injEq] at H
        obtain ⟨rfl, rfl, rfl, rfl⟩ := H
        have hnb29 := NB240001_240002.out
        have hnc29 := NB240002_240001.out
        have hcz30_0 : wc.cell? ⟨gb240001, 0, none⟩ = some (.string a0_0) := (blk_cell BK240001.out 0).trans rfl
        have hcz30_1 : wc.cell? ⟨gb240001, 1, none⟩ = some (.int .i64 a0_1) := (blk_cell BK240001.out 1).trans rfl
        have hfz30_0 := blk_frozen BK240001.out 0
        have hfz30_1 := blk_frozen BK240001.out 1
        try go_wp2_with (first | ((with_reducible refine gate_callee (f := 22) rfl ?_); refine goesL_ (some 24) rfl rfl Try.func22 (by kernel_rfl) rfl #[.agg #[.string a0_0, .int .i64 a0_1], .int .i64 2] rfl (by (try simp only [List.map_toArray, List.map_cons, List.map_nil]); first | done | rfl | (simp only [List.length_drop, List.length_take]; rfl)) ?_; (with_reducible refine (columbariumref07_Take.calls kj2 a0_0 a0_1 2 t240004 t240005 t240006 t240007 _ A22.out).mono ?_); rintro e w31 ⟨rfl, hb⟩; refine ⟨_, rfl, ?_⟩; have n0_ := Aside0.mk (blk_below (g := gb240001) (o := .cells #[.string a0_0, .int .i64 a0_1] 23 (0, 0)) (by (with_reducible repeat (first | refine blk_drewN ?_ _ | refine blk_drew ?_ | refine blk_alloc ?_ _)); exact BK240001.out) hb); have n1_ := Aside0.mk (blk_below (g := gb240002) (o := .cells #[.string (⟨#[]⟩ : ByteArray), .int .i64 0] 23 (0, 0)) (by (with_reducible repeat (first | refine blk_drewN ?_ _ | refine blk_drew ?_ | refine blk_alloc ?_ _)); exact BK240002.out) hb); have n2_ := Aside0.mk (below_step (by repeat (first | (with_reducible first | exact HB.out | apply below_alloc | apply pw_below_drewN | apply below_drew1 | refine below_set ?_ GE240001.out | refine below_set ?_ GE240002.out) | exact HB.out)) hb); clear BK240001; clear BK240002; clear HB; have BK240001 := n0_; have BK240002 := n1_; have HB := n2_; clear n0_ n1_ n2_; (try clear hb); (try clear hb2); (try clear hk); (try clear hi)) | ((with_reducible refine gate_dst (N := 8) rfl ?_); refine box_event ?hg (N := 8) ?hd (cs := #[.string (⟨#[]⟩ : ByteArray), .int .i64 0]) (t := 23) ?hr ?_; (case hd => rfl); (case hg => rfl); (case hr => first | (go_simp; done) | (go_simp; rfl)); intro gb240008 hg w32 hbox hb; have n0_ := Aside0.mk (blk_below (g := gb240001) (o := .cells #[.string a0_0, .int .i64 a0_1] 23 (0, 0)) (by (with_reducible repeat (first | refine blk_drewN ?_ _ | refine blk_drew ?_ | refine blk_alloc ?_ _)); exact BK240001.out) hb); have n1_ := Aside0.mk (blk_below (g := gb240002) (o := .cells #[.string (⟨#[]⟩ : ByteArray), .int .i64 0] 23 (0, 0)) (by (with_reducible repeat (first | refine blk_drewN ?_ _ | refine blk_drew ?_ | refine blk_alloc ?_ _)); exact BK240002.out) hb); have n2_ := Aside0.mk (below_step (by repeat (first | (with_reducible first | exact HB.out | apply below_alloc | apply pw_below_drewN | apply below_drew1 | refine below_set ?_ GE240001.out | refine below_set ?_ GE240002.out) | exact HB.out)) hb); have n3_ := Aside0.mk (hbox); have n4_ := Aside0.mk ((by rw [hg]; exact (below_size (by repeat (first | (with_reducible first | exact HB.out | apply below_alloc | apply pw_below_drewN | apply below_drew1 | refine below_set ?_ GE240001.out | refine below_set ?_ GE240002.out) | exact HB.out))) : w.heap.size ≤ gb240008)); have n5_ := Aside0.mk ((by rw [hg]; exact (below_size (by repeat (first | (with_reducible first | exact HB.out | apply below_alloc | apply pw_below_drewN | apply below_drew1 | refine below_set ?_ GE240001.out | refine below_set ?_ GE240002.out) | exact HB.out))) : w.heap.size ≤ gb240008)); have n6_ := Aside0.mk ((by rw [hg]; exact Nat.ne_of_lt (blk_lt (g := gb240001) (o := .cells #[.string a0_0, .int .i64 a0_1] 23 (0, 0)) (by (with_reducible repeat (first | refine blk_drewN ?_ _ | refine blk_drew ?_ | refine blk_alloc ?_ _)); exact BK240001.out)) : gb240001 ≠ gb240008)); have n7_ := Aside0.mk ((by rw [hg]; exact Nat.ne_of_gt (blk_lt (g := gb240001) (o := .cells #[.string a0_0, .int .i64 a0_1] 23 (0, 0)) (by (with_reducible repeat (first | refine blk_drewN ?_ _ | refine blk_drew ?_ | refine blk_alloc ?_ _)); exact BK240001.out)) : gb240008 ≠ gb240001)); have n8_ := Aside0.mk ((by rw [hg]; exact Nat.ne_of_lt (blk_lt (g := gb240002) (o := .cells #[.string (⟨#[]⟩ : ByteArray), .int .i64 0] 23 (0, 0)) (by (with_reducible repeat (first | refine blk_drewN ?_ _ | refine blk_drew ?_ | refine blk_alloc ?_ _)); exact BK240002.out)) : gb240002 ≠ gb240008)); have n9_ := Aside0.mk ((by rw [hg]; exact Nat.ne_of_gt (blk_lt (g := gb240002) (o := .cells #[.string (⟨#[]⟩ : ByteArray), .int .i64 0] 23 (0, 0)) (by (with_reducible repeat (first | refine blk_drewN ?_ _ | refine blk_drew ?_ | refine blk_alloc ?_ _)); exact BK240002.out)) : gb240008 ≠ gb240002)); clear BK240001; clear BK240002; clear HB; have BK240001 := n0_; have BK240002 := n1_; have HB := n2_; have BK240008 := n3_; have GW240008 := n4_; have GE240008 := n5_; have NB240001_240008 := n6_; have NB240008_240001 := n7_; have NB240002_240008 := n8_; have NB240008_240002 := n9_; clear n0_ n1_ n2_ n3_ n4_ n5_ n6_ n7_ n8_ n9_; clear hb hbox hg; have hnb33 := NB240008_240001.out; have hnc33 := NB240001_240008.out; have hnb34 := NB240008_240002.out; have hnc34 := NB240002_240008.out; have hcz35_0 : w32.cell? ⟨gb240008, 0, none⟩ = some (.string (⟨#[]⟩ : ByteArray)) := (blk_cell BK240008.out 0).trans rfl; have hcz35_1 : w32.cell? ⟨gb240008, 1, none⟩ = some (.int .i64 0) := (blk_cell BK240008.out 1).trans rfl; have hfz35_0 := blk_frozen BK240008.out 0; have hfz35_1 := blk_frozen BK240008.out 1))
        have n0_ : Aside0 (((w32.setCell ⟨gb240008, 0, none⟩ (.string t240005)).setCell ⟨gb240008, 1, none⟩ (.int .i64 t240006)).heap[gb240001]? = some (.cells #[.string a0_0, .int .i64 a0_1] 23 (0, 0))) := ⟨by (with_reducible repeat (first | refine blk_drewN ?_ _ | refine blk_drew ?_ | refine blk_alloc ?_ _)); refine blk_far ?_ NB240001_240008.out _; (with_reducible repeat (first | refine blk_drewN ?_ _ | refine blk_drew ?_ | refine blk_alloc ?_ _)); refine blk_far ?_ NB240001_240008.out _; (with_reducible repeat (first | refine blk_drewN ?_ _ | refine blk_drew ?_ | refine blk_alloc ?_ _)); exact BK240001.out⟩
        have n1_ : Aside0 (((w32.setCell ⟨gb240008, 0, none⟩ (.string t240005)).setCell ⟨gb240008, 1, none⟩ (.int .i64 t240006)).heap[gb240002]? = some (.cells #[.string (⟨#[]⟩ : ByteArray), .int .i64 0] 23 (0, 0))) := ⟨by (with_reducible repeat (first | refine blk_drewN ?_ _ | refine blk_drew ?_ | refine blk_alloc ?_ _)); refine blk_far ?_ NB240002_240008.out _; (with_reducible repeat (first | refine blk_drewN ?_ _ | refine blk_drew ?_ | refine blk_alloc ?_ _)); refine blk_far ?_ NB240002_240008.out _; (with_reducible repeat (first | refine blk_drewN ?_ _ | refine blk_drew ?_ | refine blk_alloc ?_ _)); exact BK240002.out⟩
        have n2_ : Aside0 (((w32.setCell ⟨gb240008, 0, none⟩ (.string t240005)).setCell ⟨gb240008, 1, none⟩ (.int .i64 t240006)).heap[gb240008]? = some (.cells #[.string t240005, .int .i64 t240006] 23 (0, 0))) := ⟨by (with_reducible repeat (first | refine blk_drewN ?_ _ | refine blk_drew ?_ | refine blk_alloc ?_ _)); refine blk_put (cs := #[.string t240005, .int .i64 0]) ?_ 1 _ rfl; (with_reducible repeat (first | refine blk_drewN ?_ _ | refine blk_drew ?_ | refine blk_alloc ?_ _)); refine blk_put (cs := #[.string (⟨#[]⟩ : ByteArray), .int .i64 0]) ?_ 0 _ rfl; (with_reducible repeat (first | refine blk_drewN ?_ _ | refine blk_drew ?_ | refine blk_alloc ?_ _)); exact BK240008.out⟩
        have n3_ : Aside0 (Below w.heap.size w ((w32.setCell ⟨gb240008, 0, none⟩ (.string t240005)).setCell ⟨gb240008, 1, none⟩ (.int .i64 t240006))) := ⟨by repeat (first | (with_reducible first | exact HB.out | apply below_alloc | apply pw_below_drewN | apply below_drew1 | refine below_set ?_ GE240001.out | refine below_set ?_ GE240002.out | refine below_set ?_ GE240008.out) | exact HB.out)⟩
        (try clear BK240001)
        (try clear BK240002)
        (try clear BK240008)
        (try clear HB)
        generalize ((w32.setCell ⟨gb240008, 0, none⟩ (.string t240005)).setCell ⟨gb240008, 1, none⟩ (.int .i64 t240006)) = w36 at n0_ n1_ n2_ n3_ ⊢
        have BK240001 := n0_
        have BK240002 := n1_
        have BK240008 := n2_
        have HB := n3_
        clear n0_ n1_ n2_ n3_
        have n0_ := Aside0.mk (blk_drew BK240001.out)
        have n1_ := Aside0.mk (blk_drew BK240002.out)
        have n2_ := Aside0.mk (blk_drew BK240008.out)
        have n3_ := Aside0.mk (below_drew1 HB.out)
        clear BK240001
        clear BK240002
        clear BK240008
        clear HB
        have BK240001 := n0_
        have BK240002 := n1_
        have BK240008 := n2_
        have HB := n3_
        clear n0_ n1_ n2_ n3_
        have p25 : 0 ≤ (0 : Int) := (by omega)
        have q25 : 0 < t240004.size := (by have : (0 : Int) < (t240004.size : Int) := of_decide_eq_true (by first | (with_reducible assumption) | assumption); omega)
        have hx25 : ∀ h : 0 < t240004.size, ((t240004[0]'h).toNat : Int) = bt t240004 0 := bt_at t240004 0
        clear p25
        have qi25 : (0 < (t240004.size : Int)) = True := eq_true (of_decide_eq_true (by first | (with_reducible assumption) | assumption))
        replace q25 := eq_true q25
        have p27 : 0 ≤ (1 : Int) := (by omega)
        have q27 : 1 < t240004.size := (by have : (1 : Int) < (t240004.size : Int) := of_decide_eq_true (by first | (with_reducible assumption) | assumption); omega)
        have hx27 : ∀ h : 1 < t240004.size, ((t240004[1]'h).toNat : Int) = bt t240004 1 := bt_at t240004 1
        clear p27
        have qi27 : (1 < (t240004.size : Int)) = True := eq_true (of_decide_eq_true (by first | (with_reducible assumption) | assumption))
        replace q27 := eq_true q27
        refine start_ (n := 14) (S := fun w' => w'.cell? ⟨gb240008, 0, none⟩ = some (.string t240005) ∧ w'.cell? ⟨gb240008, 1, none⟩ = some (.int .i64 t240006)) (ds := []) #[false, false, false, false, false, false, false, false, false, false, false, false, false, false] (by kernel_rfl) rfl rfl ⟨(blk_cell BK240008.out 0).trans rfl, (blk_cell BK240008.out 1).trans rfl⟩ (fun hHeld => ?_); refine with_tabW columbariumref07_Number.tab6 columbariumref07_Number.bits6 (fun HT_ HW_ => ?_)
        generalize w36.drew = w37 at BK240001 BK240002 BK240008 HB hHeld ⊢
        refine pure_ (i := 0) (N := some 32) (v := ?_) (a' := ?_) #[true, false, false, false, false, false, false, false, false, false, false, false, false, false] rfl rfl (any_of HT_.out (by kernel_rfl)) (fun _ _ _ h => h) (Or.inl ⟨by rfl, ?_⟩) ?_ ?_
        rotate_left
        ·intro w'
         go_simp
         with_reducible rfl
        rotate_left
        ·simp only [Act.put, List.setIfInBounds_toArray, List.set_cons_zero, List.set_cons_succ, i64_w, i32_w]
         rfl
        refine pure_ (i := 4) (N := some 36) (v := ?_) (a' := ?_) #[true, false, false, false, true, false, false, false, false, false, false, false, false, false] rfl rfl (any_of HT_.out (by kernel_rfl)) (fun _ _ _ h => h) (Or.inl ⟨by rfl, ?_⟩) ?_ ?_
        rotate_left
        ·intro w'
         go_simp
         with_reducible rfl
        rotate_left
        ·simp only [Act.put, List.setIfInBounds_toArray, List.set_cons_zero, List.set_cons_succ, i64_w, i32_w]
         rfl
        refine pure_ (i := 8) (N := some 40) (v := ?_) (a' := ?_) #[true, false, false, false, true, false, false, false, true, false, false, false, false, false] rfl rfl (any_of HT_.out (by kernel_rfl)) (fun _ _ _ h => h) (Or.inl ⟨by rfl, ?_⟩) ?_ ?_
        rotate_left
        ·intro w'
         go_simp
         with_reducible rfl
        rotate_left
        ·simp only [Act.put, List.setIfInBounds_toArray, List.set_cons_zero, List.set_cons_succ, i64_w, i32_w]
         rfl
        refine take_ (i := 1) (N := some 33) (v := ?_) (a' := ?_) #[true, true, false, false, true, false, false, false, true, false, false, false, false, false] rfl rfl (take_ofW HT_.out HW_.out (by kernel_rfl)) (fun _ _ _ h => h) (Or.inl ⟨by rfl, ?_⟩) hHeld ?_ ?_
        rotate_left
        ·rintro w' ⟨s0, s1⟩
         go_simp
         with_reducible rfl
        rotate_left
        ·simp only [Act.put, List.setIfInBounds_toArray, List.set_cons_zero, List.set_cons_succ, i64_w, i32_w]
         rfl
        refine pure_ (i := 2) (N := some 34) (v := ?_) (a' := ?_) #[true, true, true, false, true, false, false, false, true, false, false, false, false, false] rfl rfl (any_of HT_.out (by kernel_rfl)) (fun _ _ _ h => h) (Or.inl ⟨by rfl, ?_⟩) ?_ ?_
        rotate_left
        ·intro w'
         go_simp
         with_reducible rfl
        rotate_left
        ·simp only [Act.put, List.setIfInBounds_toArray, List.set_cons_zero, List.set_cons_succ, i64_w, i32_w]
         rfl
        refine pure_ (i := 3) (N := some 35) (v := ?_) (a' := ?_) #[true, true, true, true, true, false, false, false, true, false, false, false, false, false] rfl rfl (any_of HT_.out (by kernel_rfl)) (fun _ _ _ h => h) (Or.inl ⟨by rfl, ?_⟩) ?_ ?_
        rotate_left
        ·intro w'
         go_simp
         with_reducible rfl
        rotate_left
        ·simp only [Act.put, List.setIfInBounds_toArray, List.set_cons_zero, List.set_cons_succ, i64_w, i32_w]
         rfl
        refine take_ (i := 5) (N := some 37) (v := ?_) (a' := ?_) #[true, true, true, true, true, true, false, false, true, false, false, false, false, false] rfl rfl (take_ofW HT_.out HW_.out (by kernel_rfl)) (fun _ _ _ h => h) (Or.inl ⟨by rfl, ?_⟩) hHeld ?_ ?_
        rotate_left
        ·rintro w' ⟨s0, s1⟩
         go_simp
         with_reducible rfl
        rotate_left
        ·simp only [Act.put, List.setIfInBounds_toArray, List.set_cons_zero, List.set_cons_succ, i64_w, i32_w]
         rfl
        refine pure_ (i := 6) (N := some 38) (v := ?_) (a' := ?_) #[true, true, true, true, true, true, true, false, true, false, false, false, false, false] rfl rfl (any_of HT_.out (by kernel_rfl)) (fun _ _ _ h => h) (Or.inl ⟨by rfl, ?_⟩) ?_ ?_
        rotate_left
        ·intro w'
         go_simp
         with_reducible rfl
        rotate_left
        ·simp only [Act.put, List.setIfInBounds_toArray, List.set_cons_zero, List.set_cons_succ, i64_w, i32_w]
         rfl
        refine pure_ (i := 7) (N := some 39) (v := ?_) (a' := ?_) #[true, true, true, true, true, true, true, true, true, false, false, false, false, false] rfl rfl (any_of HT_.out (by kernel_rfl)) (fun _ _ _ h => h) (Or.inl ⟨by rfl, ?_⟩) ?_ ?_
        rotate_left
        ·intro w'
         go_simp
         with_reducible rfl
        rotate_left
        ·simp only [Act.put, List.setIfInBounds_toArray, List.set_cons_zero, List.set_cons_succ, i64_w, i32_w]
         rfl
        refine pure_ (i := 9) (N := some 41) (v := ?_) (a' := ?_) #[true, true, true, true, true, true, true, true, true, true, false, false, false, false] rfl rfl (any_of HT_.out (by kernel_rfl)) (fun _ _ _ h => h) (Or.inl ⟨by rfl, ?_⟩) ?_ ?_
        rotate_left
        ·intro w'
         go_simp
         with_reducible rfl
        rotate_left
        ·simp only [Act.put, List.setIfInBounds_toArray, List.set_cons_zero, List.set_cons_succ, i64_w, i32_w]
         rfl
        refine pure_ (i := 11) (N := some 4) (v := ?_) (a' := ?_) #[true, true, true, true, true, true, true, true, true, true, false, true, false, false] rfl rfl (any_of HT_.out (by kernel_rfl)) (fun _ _ _ h => h) (Or.inl ⟨by rfl, ?_⟩) ?_ ?_
        rotate_left
        ·intro w'
         go_simp
         with_reducible rfl
        rotate_left
        ·simp only [Act.put, List.setIfInBounds_toArray, List.set_cons_zero, List.set_cons_succ, i64_w, i32_w]
         rfl
        refine take_ (i := 10) (N := some 42) (v := ?_) (a' := ?_) #[true, true, true, true, true, true, true, true, true, true, true, true, false, false] rfl rfl (take_ofW HT_.out HW_.out (by kernel_rfl)) (fun _ _ _ h => h) (Or.inl ⟨by rfl, ?_⟩) hHeld ?_ ?_
        rotate_left
        ·rintro w' ⟨s0, s1⟩
         go_simp
         with_reducible rfl
        rotate_left
        ·simp only [Act.put, List.setIfInBounds_toArray, List.set_cons_zero, List.set_cons_succ, i64_w, i32_w]
         rfl
        refine one_ (i := 12) (N := none) #[true, true, true, true, true, true, true, true, true, true, true, true, true, false] rfl rfl (one_of HT_.out (by kernel_rfl)) (by decide) (fun K hK => ?_)
        have hs38 : w37.cell? ⟨gb240002, 0, none⟩ = some (.string (⟨#[]⟩ : ByteArray)) := (blk_cell BK240002.out 0).trans rfl
        have hfs38 := blk_frozen BK240002.out 0
        have hns38_0 := NB240001_240002.out
        have hns38_2 := NB240008_240002.out
        have hms38_0 := NB240002_240001.out
        have hms38_2 := NB240002_240008.out
        have hs39 : w37.cell? ⟨gb240002, 1, none⟩ = some (.int .i64 0) := (blk_cell BK240002.out 1).trans rfl
        have hfs39 := blk_frozen BK240002.out 1
        have hns39_0 := NB240001_240002.out
        have hns39_2 := NB240008_240002.out
        have hms39_0 := NB240002_240001.out
        have hms39_2 := NB240002_240008.out
        refine skip_ (w1 := ?_) (by rfl) rfl ?_ ?_
        rotate_left
        ·go_simp
         rfl
        refine hK.out _ _ ⟨((cell_far (p := ⟨gb240002, _, none⟩) NB240008_240002.out _).trans (((cell_far (p := ⟨gb240002, _, none⟩) NB240008_240002.out _).trans (hHeld.1)))), ((cell_far (p := ⟨gb240002, _, none⟩) NB240008_240002.out _).trans (((cell_far (p := ⟨gb240002, _, none⟩) NB240008_240002.out _).trans (hHeld.2))))⟩ (fun hHeld => ?_)
        clear hK K
        refine pure_ (i := 13) (N := some 6) (v := ?_) (a' := ?_) #[true, true, true, true, true, true, true, true, true, true, true, true, true, true] rfl rfl (any_of HT_.out (by kernel_rfl)) (fun _ _ _ h => h) (Or.inl ⟨by rfl, ?_⟩) ?_ ?_
        rotate_left
        ·intro w'
         go_simp
         with_reducible rfl
        rotate_left
        ·simp only [Act.put, List.setIfInBounds_toArray, List.set_cons_zero, List.set_cons_succ, i64_w, i32_w]
         rfl
        refine done_ (done_of HT_.out (by kernel_rfl)) ?_
        try go_wp2
        refine bodyPost_ret (results_list (rs := [.tmp 4, .cell 5 23, .tmp 6]) rfl (by simp) (.tmp (.cell gb240002 23 #[.string t240005, .int .i64 t240006] (0, 0) _ rfl (by (with_reducible repeat (first | refine blk_drewN ?_ _ | refine blk_drew ?_ | refine blk_alloc ?_ _)); refine blk_put (cs := #[.string t240005, .int .i64 0]) ?_ 1 _ rfl; (with_reducible repeat (first | refine blk_drewN ?_ _ | refine blk_drew ?_ | refine blk_alloc ?_ _)); refine blk_put (cs := #[.string (⟨#[]⟩ : ByteArray), .int .i64 0]) ?_ 0 _ rfl; (with_reducible repeat (first | refine blk_drewN ?_ _ | refine blk_drew ?_ | refine blk_alloc ?_ _)); exact BK240002.out) Try.underlying23 rfl (by kernel_rfl) (.tmp .nil)))) rfl ?_
        exact ⟨by first | rfl | (simp [errW_none, errW_some] <;> rfl) | (simp [*, errW_none, errW_some] <;> rfl), by repeat (first | (with_reducible first | exact HB.out | apply below_alloc | apply pw_below_drewN | apply below_drew1 | refine below_set ?_ GE240001.out | refine below_set ?_ GE240002.out | refine below_set ?_ GE240008.out) | exact HB.out)⟩
      ·rw [if_neg c26] at H
       exact absurd H (by simp)
     ·rw [if_neg c24] at H
      exact absurd H (by simp)
    ·rw [if_neg c23] at H
     have c23b0 : (t240007 == 0) = false := beq_eq_false_iff_ne.mpr c23
     have c23b1 : (t240007 != 0) = true := bne_iff_ne.mpr c23
     simp only [Option.some.injEq, Prod.mk.injEq] at H
     obtain ⟨rfl, rfl, rfl, rfl⟩ := H
     have hnb40 := NB240001_240002.out
     have hnc40 := NB240002_240001.out
     have hcz41_0 : wc.cell? ⟨gb240001, 0, none⟩ = some (.string a0_0) := (blk_cell BK240001.out 0).trans rfl
     have hcz41_1 : wc.cell? ⟨gb240001, 1, none⟩ = some (.int .i64 a0_1) := (blk_cell BK240001.out 1).trans rfl
     have hfz41_0 := blk_frozen BK240001.out 0
     have hfz41_1 := blk_frozen BK240001.out 1
     try go_wp2_with (first | ((with_reducible refine gate_callee (f := 22) rfl ?_); refine goesL_ (some 24) rfl rfl Try.func22 (by kernel_rfl) rfl #[.agg #[.string a0_0, .int .i64 a0_1], .int .i64 2] rfl (by (try simp only [List.map_toArray, List.map_cons, List.map_nil]); first | done | rfl | (simp only [List.length_drop, List.length_take]; rfl)) ?_; (with_reducible refine (columbariumref07_Take.calls kj2 a0_0 a0_1 2 t240004 t240005 t240006 t240007 _ A22.out).mono ?_); rintro e w42 ⟨rfl, hb⟩; refine ⟨_, rfl, ?_⟩; have n0_ := Aside0.mk (blk_below (g := gb240001) (o := .cells #[.string a0_0, .int .i64 a0_1] 23 (0, 0)) (by (with_reducible repeat (first | refine blk_drewN ?_ _ | refine blk_drew ?_ | refine blk_alloc ?_ _)); exact BK240001.out) hb); have n1_ := Aside0.mk (blk_below (g := gb240002) (o := .cells #[.string (⟨#[]⟩ : ByteArray), .int .i64 0] 23 (0, 0)) (by (with_reducible repeat (first | refine blk_drewN ?_ _ | refine blk_drew ?_ | refine blk_alloc ?_ _)); exact BK240002.out) hb); have n2_ := Aside0.mk (below_step (by repeat (first | (with_reducible first | exact HB.out | apply below_alloc | apply pw_below_drewN | apply below_drew1 | refine below_set ?_ GE240001.out | refine below_set ?_ GE240002.out) | exact HB.out)) hb); clear BK240001; clear BK240002; clear HB; have BK240001 := n0_; have BK240002 := n1_; have HB := n2_; clear n0_ n1_ n2_; (try clear hb); (try clear hb2); (try clear hk); (try clear hi)) | ((with_reducible refine gate_dst (N := 8) rfl ?_); refine box_event ?hg (N := 8) ?hd (cs := #[.string (⟨#[]⟩ : ByteArray), .int .i64 0]) (t := 23) ?hr ?_; (case hd => rfl); (case hg => rfl); (case hr => first | (go_simp; done) | (go_simp; rfl)); intro gb240008 hg w43 hbox hb; have n0_ := Aside0.mk (blk_below (g := gb240001) (o := .cells #[.string a0_0, .int .i64 a0_1] 23 (0, 0)) (by (with_reducible repeat (first | refine blk_drewN ?_ _ | refine blk_drew ?_ | refine blk_alloc ?_ _)); exact BK240001.out) hb); have n1_ := Aside0.mk (blk_below (g := gb240002) (o := .cells #[.string (⟨#[]⟩ : ByteArray), .int .i64 0] 23 (0, 0)) (by (with_reducible repeat (first | refine blk_drewN ?_ _ | refine blk_drew ?_ | refine blk_alloc ?_ _)); exact BK240002.out) hb); have n2_ := Aside0.mk (below_step (by repeat (first | (with_reducible first | exact HB.out | apply below_alloc | apply pw_below_drewN | apply below_drew1 | refine below_set ?_ GE240001.out | refine below_set ?_ GE240002.out) | exact HB.out)) hb); have n3_ := Aside0.mk (hbox); have n4_ := Aside0.mk ((by rw [hg]; exact (below_size (by repeat (first | (with_reducible first | exact HB.out | apply below_alloc | apply pw_below_drewN | apply below_drew1 | refine below_set ?_ GE240001.out | refine below_set ?_ GE240002.out) | exact HB.out))) : w.heap.size ≤ gb240008)); have n5_ := Aside0.mk ((by rw [hg]; exact (below_size (by repeat (first | (with_reducible first | exact HB.out | apply below_alloc | apply pw_below_drewN | apply below_drew1 | refine below_set ?_ GE240001.out | refine below_set ?_ GE240002.out) | exact HB.out))) : w.heap.size ≤ gb240008)); have n6_ := Aside0.mk ((by rw [hg]; exact Nat.ne_of_lt (blk_lt (g := gb240001) (o := .cells #[.string a0_0, .int .i64 a0_1] 23 (0, 0)) (by (with_reducible repeat (first | refine blk_drewN ?_ _ | refine blk_drew ?_ | refine blk_alloc ?_ _)); exact BK240001.out)) : gb240001 ≠ gb240008)); have n7_ := Aside0.mk ((by rw [hg]; exact Nat.ne_of_gt (blk_lt (g := gb240001) (o := .cells #[.string a0_0, .int .i64 a0_1] 23 (0, 0)) (by (with_reducible repeat (first | refine blk_drewN ?_ _ | refine blk_drew ?_ | refine blk_alloc ?_ _)); exact BK240001.out)) : gb240008 ≠ gb240001)); have n8_ := Aside0.mk ((by rw [hg]; exact Nat.ne_of_lt (blk_lt (g := gb240002) (o := .cells #[.string (⟨#[]⟩ : ByteArray), .int .i64 0] 23 (0, 0)) (by (with_reducible repeat (first | refine blk_drewN ?_ _ | refine blk_drew ?_ | refine blk_alloc ?_ _)); exact BK240002.out)) : gb240002 ≠ gb240008)); have n9_ := Aside0.mk ((by rw [hg]; exact Nat.ne_of_gt (blk_lt (g := gb240002) (o := .cells #[.string (⟨#[]⟩ : ByteArray), .int .i64 0] 23 (0, 0)) (by (with_reducible repeat (first | refine blk_drewN ?_ _ | refine blk_drew ?_ | refine blk_alloc ?_ _)); exact BK240002.out)) : gb240008 ≠ gb240002)); clear BK240001; clear BK240002; clear HB; have BK240001 := n0_; have BK240002 := n1_; have HB := n2_; have BK240008 := n3_; have GW240008 := n4_; have GE240008 := n5_; have NB240001_240008 := n6_; have NB240008_240001 := n7_; have NB240002_240008 := n8_; have NB240008_240002 := n9_; clear n0_ n1_ n2_ n3_ n4_ n5_ n6_ n7_ n8_ n9_; clear hb hbox hg; have hnb44 := NB240008_240001.out; have hnc44 := NB240001_240008.out; have hnb45 := NB240008_240002.out; have hnc45 := NB240002_240008.out; have hcz46_0 : w43.cell? ⟨gb240008, 0, none⟩ = some (.string (⟨#[]⟩ : ByteArray)) := (blk_cell BK240008.out 0).trans rfl; have hcz46_1 : w43.cell? ⟨gb240008, 1, none⟩ = some (.int .i64 0) := (blk_cell BK240008.out 1).trans rfl; have hfz46_0 := blk_frozen BK240008.out 0; have hfz46_1 := blk_frozen BK240008.out 1))
     have n0_ : Aside0 (((w43.setCell ⟨gb240008, 0, none⟩ (.string t240005)).setCell ⟨gb240008, 1, none⟩ (.int .i64 t240006)).heap[gb240001]? = some (.cells #[.string a0_0, .int .i64 a0_1] 23 (0, 0))) := ⟨by (with_reducible repeat (first | refine blk_drewN ?_ _ | refine blk_drew ?_ | refine blk_alloc ?_ _)); refine blk_far ?_ NB240001_240008.out _; (with_reducible repeat (first | refine blk_drewN ?_ _ | refine blk_drew ?_ | refine blk_alloc ?_ _)); refine blk_far ?_ NB240001_240008.out _; (with_reducible repeat (first | refine blk_drewN ?_ _ | refine blk_drew ?_ | refine blk_alloc ?_ _)); exact BK240001.out⟩
     have n1_ : Aside0 (((w43.setCell ⟨gb240008, 0, none⟩ (.string t240005)).setCell ⟨gb240008, 1, none⟩ (.int .i64 t240006)).heap[gb240002]? = some (.cells #[.string (⟨#[]⟩ : ByteArray), .int .i64 0] 23 (0, 0))) := ⟨by (with_reducible repeat (first | refine blk_drewN ?_ _ | refine blk_drew ?_ | refine blk_alloc ?_ _)); refine blk_far ?_ NB240002_240008.out _; (with_reducible repeat (first | refine blk_drewN ?_ _ | refine blk_drew ?_ | refine blk_alloc ?_ _)); refine blk_far ?_ NB240002_240008.out _; (with_reducible repeat (first | refine blk_drewN ?_ _ | refine blk_drew ?_ | refine blk_alloc ?_ _)); exact BK240002.out⟩
     have n2_ : Aside0 (((w43.setCell ⟨gb240008, 0, none⟩ (.string t240005)).setCell ⟨gb240008, 1, none⟩ (.int .i64 t240006)).heap[gb240008]? = some (.cells #[.string t240005, .int .i64 t240006] 23 (0, 0))) := ⟨by (with_reducible repeat (first | refine blk_drewN ?_ _ | refine blk_drew ?_ | refine blk_alloc ?_ _)); refine blk_put (cs := #[.string t240005, .int .i64 0]) ?_ 1 _ rfl; (with_reducible repeat (first | refine blk_drewN ?_ _ | refine blk_drew ?_ | refine blk_alloc ?_ _)); refine blk_put (cs := #[.string (⟨#[]⟩ : ByteArray), .int .i64 0]) ?_ 0 _ rfl; (with_reducible repeat (first | refine blk_drewN ?_ _ | refine blk_drew ?_ | refine blk_alloc ?_ _)); exact BK240008.out⟩
     have n3_ : Aside0 (Below w.heap.size w ((w43.setCell ⟨gb240008, 0, none⟩ (.string t240005)).setCell ⟨gb240008, 1, none⟩ (.int .i64 t240006))) := ⟨by repeat (first | (with_reducible first | exact HB.out | apply below_alloc | apply pw_below_drewN | apply below_drew1 | refine below_set ?_ GE240001.out | refine below_set ?_ GE240002.out | refine below_set ?_ GE240008.out) | exact HB.out)⟩
     (try clear BK240001)
     (try clear BK240002)
     (try clear BK240008)
     (try clear HB)
     generalize ((w43.setCell ⟨gb240008, 0, none⟩ (.string t240005)).setCell ⟨gb240008, 1, none⟩ (.int .i64 t240006)) = w47 at n0_ n1_ n2_ n3_ ⊢
     have BK240001 := n0_
     have BK240002 := n1_
     have BK240008 := n2_
     have HB := n3_
     clear n0_ n1_ n2_ n3_
     have n0_ := Aside0.mk (blk_drew BK240001.out)
     have n1_ := Aside0.mk (blk_drew BK240002.out)
     have n2_ := Aside0.mk (blk_drew BK240008.out)
     have n3_ := Aside0.mk (below_drew1 HB.out)
     clear BK240001
     clear BK240002
     clear BK240008
     clear HB
     have BK240001 := n0_
     have BK240002 := n1_
     have BK240008 := n2_
     have HB := n3_
     clear n0_ n1_ n2_ n3_
     refine start_ (n := 5) (S := fun w' => w'.cell? ⟨gb240001, 0, none⟩ = some (.string a0_0) ∧ w'.cell? ⟨gb240001, 1, none⟩ = some (.int .i64 a0_1)) (ds := []) #[false, false, false, false, false] (by kernel_rfl) rfl rfl ⟨(blk_cell BK240001.out 0).trans rfl, (blk_cell BK240001.out 1).trans rfl⟩ (fun hHeld => ?_)
     generalize w47.drew = w48 at BK240001 BK240002 BK240008 HB hHeld ⊢
     refine pure_ (i := 1) (N := some 31) (v := ?_) (a' := ?_) #[false, true, false, false, false] rfl rfl (by kernel_rfl) (fun _ _ _ h => h) (Or.inl ⟨by rfl, ?_⟩) ?_ ?_
     rotate_left
     ·intro w'
      go_simp
      with_reducible rfl
     rotate_left
     ·simp only [Act.put, List.setIfInBounds_toArray, List.set_cons_zero, List.set_cons_succ, i64_w, i32_w]
      rfl
     refine pure_ (i := 2) (N := some 4) (v := ?_) (a' := ?_) #[false, true, true, false, false] rfl rfl (by kernel_rfl) (fun _ _ _ h => h) (Or.inl ⟨by rfl, ?_⟩) ?_ ?_
     rotate_left
     ·intro w'
      go_simp
      with_reducible rfl
     rotate_left
     ·simp only [Act.put, List.setIfInBounds_toArray, List.set_cons_zero, List.set_cons_succ, i64_w, i32_w]
      rfl
     refine take_ (i := 0) (N := some 30) (v := ?_) (a' := ?_) #[true, true, true, false, false] rfl rfl (by kernel_rfl) (fun _ _ _ h => h) (Or.inl ⟨by rfl, ?_⟩) hHeld ?_ ?_
     rotate_left
     ·rintro w' ⟨s0, s1⟩
      go_simp
      with_reducible rfl
     rotate_left
     ·simp only [Act.put, List.setIfInBounds_toArray, List.set_cons_zero, List.set_cons_succ, i64_w, i32_w]
      rfl
     refine one_ (i := 3) (N := none) #[true, true, true, true, false] rfl rfl (by kernel_rfl) (by decide) (fun K hK => ?_)
     have hs49 : w48.cell? ⟨gb240002, 0, none⟩ = some (.string (⟨#[]⟩ : ByteArray)) := (blk_cell BK240002.out 0).trans rfl
     have hfs49 := blk_frozen BK240002.out 0
     have hns49_0 := NB240001_240002.out
     have hns49_2 := NB240008_240002.out
     have hms49_0 := NB240002_240001.out
     have hms49_2 := NB240002_240008.out
     have hs50 : w48.cell? ⟨gb240002, 1, none⟩ = some (.int .i64 0) := (blk_cell BK240002.out 1).trans rfl
     have hfs50 := blk_frozen BK240002.out 1
     have hns50_0 := NB240001_240002.out
     have hns50_2 := NB240008_240002.out
     have hms50_0 := NB240002_240001.out
     have hms50_2 := NB240002_240008.out
     refine skip_ (w1 := ?_) (by rfl) rfl ?_ ?_
     rotate_left
     ·go_simp
      rfl
     refine hK.out _ _ ⟨((cell_far (p := ⟨gb240002, _, none⟩) NB240001_240002.out _).trans (((cell_far (p := ⟨gb240002, _, none⟩) NB240001_240002.out _).trans (hHeld.1)))), ((cell_far (p := ⟨gb240002, _, none⟩) NB240001_240002.out _).trans (((cell_far (p := ⟨gb240002, _, none⟩) NB240001_240002.out _).trans (hHeld.2))))⟩ (fun hHeld => ?_)
     clear hK K
     refine pure_ (i := 4) (N := some 6) (v := ?_) (a' := ?_) #[true, true, true, true, true] rfl rfl (by kernel_rfl) (fun _ _ _ h => h) (Or.inl ⟨by rfl, ?_⟩) ?_ ?_
     rotate_left
     ·intro w'
      go_simp
      with_reducible rfl
     rotate_left
     ·simp only [Act.put, List.setIfInBounds_toArray, List.set_cons_zero, List.set_cons_succ, i64_w, i32_w]
      rfl
     refine done_ (by kernel_rfl) ?_
     try go_wp2
     refine bodyPost_ret (results_list (rs := [.tmp 4, .cell 5 23, .tmp 6]) rfl (by simp) (.tmp (.cell gb240002 23 #[.string a0_0, .int .i64 a0_1] (0, 0) _ rfl (by (with_reducible repeat (first | refine blk_drewN ?_ _ | refine blk_drew ?_ | refine blk_alloc ?_ _)); refine blk_put (cs := #[.string a0_0, .int .i64 0]) ?_ 1 _ rfl; (with_reducible repeat (first | refine blk_drewN ?_ _ | refine blk_drew ?_ | refine blk_alloc ?_ _)); refine blk_put (cs := #[.string (⟨#[]⟩ : ByteArray), .int .i64 0]) ?_ 0 _ rfl; (with_reducible repeat (first | refine blk_drewN ?_ _ | refine blk_drew ?_ | refine blk_alloc ?_ _)); exact BK240002.out) Try.underlying23 rfl (by kernel_rfl) (.tmp .nil)))) rfl ?_
     exact ⟨by first | rfl | (simp [errW_none, errW_some] <;> rfl) | (simp [*, errW_none, errW_some] <;> rfl), by repeat (first | (with_reducible first | exact HB.out | apply below_alloc | apply pw_below_drewN | apply below_drew1 | refine below_set ?_ GE240001.out | refine below_set ?_ GE240002.out | refine below_set ?_ GE240008.out) | exact HB.out)⟩

end Go.Proofs.Ytmkncddbecmlpaa.Pr
