-- Written by wip/tools/xprint.py, a patched run of the kit's print: not typed by hand.
import Derived.Test.YtcfinlmocgbnbaaXSq
import Derived.Test.YtcfinlmocgbnbaaPr0
import Derived.Test.YtcfinlmocgbnbaaPrE0
namespace Go.Proofs.Ytcfinlmocgbnbaa.Pr
open Go.Proofs.Ytcfinlmocgbnbaa.Sq Go.RowKit Go.Proofs.YtcfinlmocgbnbaaW.PrintWords Go.Proofs.YtcfinlmocgbnbaaW.PrintLast Go.Proofs.YtcfinlmocgbnbaaW.PrintMore
attribute [local go_sem] max2_int min2_int max_two min_two max_three min_three max_four min_four   -- for this text's walks alone
set_option linter.unusedVariables false
set_option linter.unusedSimpArgs false

attribute [local go_sem high] eqA24
/-! ### columbariumref14_Same: function 15 -/
mutual
def columbariumref14_Same.j0 : Nat → Bool → List ByteArray → List (S24) → List ByteArray → List (S24) → Option (Bool)
 | 0, _, _, _, _, _ => none
 | k + 1, x22, xz2000, xz2001, xz3000, xz3001 => if x22 = true then (some false) else (columbariumref14_Same.l0 k 0 xz2000 xz2001 xz3000 xz3001)
def columbariumref14_Same.l0 : Nat → Int → List ByteArray → List (S24) → List ByteArray → List (S24) → Option (Bool)
 | 0, _, _, _, _, _ => none
 | k + 1, x5, xz2000, xz2001, xz3000, xz3001 => if x5 < (xz2000.length : Int) then (if 0 ≤ x5 then (if x5 < (xz3000.length : Int) then (if (rdOf ByteArray.empty xz2000 x5).toList = (rdOf ByteArray.empty xz3000 x5).toList then (columbariumref14_Same.l0 k (wrap64 (x5 + 1)) xz2000 xz2001 xz3000 xz3001) else (some false)) else (none)) else (none)) else (columbariumref14_Same.l1 k 0 xz2000 xz2001 xz3000 xz3001)
def columbariumref14_Same.l1 : Nat → Int → List ByteArray → List (S24) → List ByteArray → List (S24) → Option (Bool)
 | 0, _, _, _, _, _ => none
 | k + 1, x6, xz2000, xz2001, xz3000, xz3001 => if x6 < (xz2001.length : Int) then (if 0 ≤ x6 then (if x6 < (xz3001.length : Int) then (if (!(((rd_T24 xz2001 x6).f0) == ((rd_T24 xz3001 x6).f0)) || (!(((rd_T24 xz2001 x6).f1) == ((rd_T24 xz3001 x6).f1)) || (!((((rd_T24 xz2001 x6).f2).toList) == (((rd_T24 xz3001 x6).f2).toList))))) = true then (some false) else (columbariumref14_Same.l1 k (wrap64 (x6 + 1)) xz2000 xz2001 xz3000 xz3001)) else (none)) else (none)) else (some true)
end
def columbariumref14_Same.f (k : Nat) (l0_0 : List ByteArray) (l0_1 : List (S24)) (l1_0 : List ByteArray) (l1_1 : List (S24)) : Option (Bool) := if (l0_0.length : Int) = (l1_0.length : Int) then (columbariumref14_Same.j0 k ((l0_1.length : Int) != (l1_1.length : Int)) l0_0 l0_1 l1_0 l1_1) else (columbariumref14_Same.j0 k true l0_0 l0_1 l1_0 l1_1)
theorem columbariumref14_Same.mono_l : ∀ k, (∀ y0 y1 y2 y3 y4, LeO (columbariumref14_Same.j0 k y0 y1 y2 y3 y4) (columbariumref14_Same.j0 (k + 1) y0 y1 y2 y3 y4)) ∧ (∀ y0 y1 y2 y3 y4, LeO (columbariumref14_Same.l0 k y0 y1 y2 y3 y4) (columbariumref14_Same.l0 (k + 1) y0 y1 y2 y3 y4)) ∧ (∀ y0 y1 y2 y3 y4, LeO (columbariumref14_Same.l1 k y0 y1 y2 y3 y4) (columbariumref14_Same.l1 (k + 1) y0 y1 y2 y3 y4))
 | 0 => ⟨fun _ _ _ _ _ r h => by simp [columbariumref14_Same.j0] at h, fun _ _ _ _ _ r h => by simp [columbariumref14_Same.l0] at h, fun _ _ _ _ _ r h => by simp [columbariumref14_Same.l1] at h⟩
 | k + 1 => by
  obtain ⟨ih0, ih1, ih2⟩ := columbariumref14_Same.mono_l k
  refine ⟨?_, ?_, ?_⟩
  ·intro y0 y1 y2 y3 y4
   unfold columbariumref14_Same.j0
   repeat' first
   | (with_reducible exact ih0 _ _ _ _ _)
   | (with_reducible exact ih1 _ _ _ _ _)
   | (with_reducible exact ih2 _ _ _ _ _)
   | (with_reducible exact LeO.refl _)
   | (with_reducible exact LeO.none _)
   | (with_reducible refine LeO.ite ?_ ?_)
   | (with_reducible refine LeO.bind ?_ (fun _ => ?_))
   | exact ih0 _ _ _ _ _
   | exact ih1 _ _ _ _ _
   | exact ih2 _ _ _ _ _
   | exact LeO.none _
   | refine LeO.ite ?_ ?_
   | refine LeO.bind ?_ (fun _ => ?_)
  ·intro y0 y1 y2 y3 y4
   unfold columbariumref14_Same.l0
   repeat' first
   | (with_reducible exact ih0 _ _ _ _ _)
   | (with_reducible exact ih1 _ _ _ _ _)
   | (with_reducible exact ih2 _ _ _ _ _)
   | (with_reducible exact LeO.refl _)
   | (with_reducible exact LeO.none _)
   | (with_reducible refine LeO.ite ?_ ?_)
   | (with_reducible refine LeO.bind ?_ (fun _ => ?_))
   | exact ih0 _ _ _ _ _
   | exact ih1 _ _ _ _ _
   | exact ih2 _ _ _ _ _
   | exact LeO.none _
   | refine LeO.ite ?_ ?_
   | refine LeO.bind ?_ (fun _ => ?_)
  ·intro y0 y1 y2 y3 y4
   unfold columbariumref14_Same.l1
   repeat' first
   | (with_reducible exact ih0 _ _ _ _ _)
   | (with_reducible exact ih1 _ _ _ _ _)
   | (with_reducible exact ih2 _ _ _ _ _)
   | (with_reducible exact LeO.refl _)
   | (with_reducible exact LeO.none _)
   | (with_reducible refine LeO.ite ?_ ?_)
   | (with_reducible refine LeO.bind ?_ (fun _ => ?_))
   | exact ih0 _ _ _ _ _
   | exact ih1 _ _ _ _ _
   | exact ih2 _ _ _ _ _
   | exact LeO.none _
   | refine LeO.ite ?_ ?_
   | refine LeO.bind ?_ (fun _ => ?_)
theorem columbariumref14_Same.mono : ∀ a0 a1 a2 a3 k, LeO (columbariumref14_Same.f k a0 a1 a2 a3) (columbariumref14_Same.f (k + 1) a0 a1 a2 a3) := by
 intro a0 a1 a2 a3 k
 obtain ⟨ih0, ih1, ih2⟩ := columbariumref14_Same.mono_l k
 unfold columbariumref14_Same.f
 repeat' first
  | (with_reducible exact ih0 _ _ _ _ _)
  | (with_reducible exact ih1 _ _ _ _ _)
  | (with_reducible exact ih2 _ _ _ _ _)
  | (with_reducible exact LeO.refl _)
  | (with_reducible exact LeO.none _)
  | (with_reducible refine LeO.ite ?_ ?_)
  | (with_reducible refine LeO.bind ?_ (fun _ => ?_))
  | exact ih0 _ _ _ _ _
  | exact ih1 _ _ _ _ _
  | exact ih2 _ _ _ _ _
  | exact LeO.none _
  | refine LeO.ite ?_ ?_
  | refine LeO.bind ?_ (fun _ => ?_)
set_option maxHeartbeats 8000000 in
set_option maxRecDepth 100000 in
theorem columbariumref14_Same.calls (k : Nat) (A0_0 : Option Addr) (c0_0 : Nat) (l0_0 : List ByteArray) (A0_1 : Option Addr) (c0_1 : Nat) (l0_1 : List (S24)) (A1_0 : Option Addr) (c1_0 : Nat) (l1_0 : List ByteArray) (A1_1 : Option Addr) (c1_1 : Nat) (l1_1 : List (S24)) (r : Bool) (w : World) (hr0_0 : Kd.C Kd.string w A0_0 l0_0.length l0_0) (hc0_0 : l0_0.length ≤ c0_0) (hr0_1 : Kd.C k24 w A0_1 l0_1.length l0_1) (hc0_1 : l0_1.length ≤ c0_1) (hr1_0 : Kd.C Kd.string w A1_0 l1_0.length l1_0) (hc1_0 : l1_0.length ≤ c1_0) (hr1_1 : Kd.C k24 w A1_1 l1_1.length l1_1) (hc1_1 : l1_1.length ≤ c1_1) (h : columbariumref14_Same.f k l0_0 l0_1 l1_0 l1_1 = some r) :
  Calls Try.prog 15 #[.agg #[.slice A0_0 l0_0.length c0_0, .slice A0_1 l0_1.length c0_1], .agg #[.slice A1_0 l1_0.length c1_0, .slice A1_1 l1_1.length c1_1]] w fun e w' => e = .returned (.bool r) ∧ Below w.heap.size w w' := by
 have hu30 := Try.underlying30
 have hu24 := Try.underlying24
 have HR0_0 := am hr0_0
 have HC0_0 := am hc0_0
 clear hr0_0 hc0_0
 have HR0_1 := am hr0_1
 have HC0_1 := am hc0_1
 clear hr0_1 hc0_1
 have HR1_0 := am hr1_0
 have HC1_0 := am hc1_0
 clear hr1_0 hc1_0
 have HR1_1 := am hr1_1
 have HC1_1 := am hc1_1
 clear hr1_1 hc1_1
 have HB := am (Below.refl w.heap.size w)
 have H : (if (l0_0.length : Int) = (l1_0.length : Int) then (columbariumref14_Same.j0 k ((l0_1.length : Int) != (l1_1.length : Int)) l0_0 l0_1 l1_0 l1_1) else (columbariumref14_Same.j0 k true l0_0 l0_1 l1_0 l1_1)) = some r := h
 clear h
 have HC3 := am H
 clear H
 go_enter Try.func15, Try.ntmps15
 go_upto_region 1 with (first | ((with_reducible refine gate_dst (N := 2) rfl ?_); (try (refine gate_guard (by rfl) ?_; dsimp only)); refine box_event ?hg (N := 2) ?hd (cs := #[.slice A0_0 l0_0.length c0_0, .slice A0_1 l0_1.length c0_1]) (t := 30) ?hr ?_; (case hd => rfl); (case hg => rfl); (case hr => first | (go_simp; done) | (go_simp; rfl)); intro gbz1 hg w4 hbox hb; have n0_ := am (below_step (pb HB) hb); have n1_ := am (hbox); have n2_ := ge_ hg (pb HB); have n3_ := ge_ hg (pb HB); clear HB; have HB := n0_; have BKz1 := n1_; have GWz1 := n2_; have GEz1 := n3_; clear n0_ n1_ n2_ n3_; clear hb hbox hg) | ((with_reducible refine gate_dst (N := 3) rfl ?_); (try (refine gate_guard (by rfl) ?_; dsimp only)); refine box_event ?hg (N := 3) ?hd (cs := #[.slice A1_0 l1_0.length c1_0, .slice A1_1 l1_1.length c1_1]) (t := 30) ?hr ?_; (case hd => rfl); (case hg => rfl); (case hr => first | (go_simp; done) | (go_simp; rfl)); intro gbz2 hg w5 hbox hb; have n0_ := am (blk_below (pk BKz1) hb); have n1_ := am (below_step (by repeat first | (with_reducible first | exact HB.out | apply ba | apply bn | apply bd | refine bs (by assumption) ?_) | exact HB.out) hb); have n2_ := am (hbox); have n3_ := ge_ hg (by repeat first | (with_reducible first | exact HB.out | apply ba | apply bn | apply bd | refine bs (by assumption) ?_) | exact HB.out); have n4_ := ge_ hg (by repeat first | (with_reducible first | exact HB.out | apply ba | apply bn | apply bd | refine bs (by assumption) ?_) | exact HB.out); have n5_ := nl_ hg BKz1; have n6_ := ng_ hg BKz1; clear BKz1; clear HB; have BKz1 := n0_; have HB := n1_; have BKz2 := n2_; have GWz2 := n3_; have GEz2 := n4_; have NBz1_z2 := n5_; have NBz2_z1 := n6_; clear n0_ n1_ n2_ n3_ n4_ n5_ n6_; clear hb hbox hg))
 repeat (go_quiet (first | ((with_reducible refine gate_dst (N := 2) rfl ?_); (try (refine gate_guard (by rfl) ?_; dsimp only)); refine box_event ?hg (N := 2) ?hd (cs := #[.slice A0_0 l0_0.length c0_0, .slice A0_1 l0_1.length c0_1]) (t := 30) ?hr ?_; (case hd => rfl); (case hg => rfl); (case hr => first | (go_simp; done) | (go_simp; rfl)); intro gbz1 hg w4 hbox hb; have n0_ := am (below_step (pb HB) hb); have n1_ := am (hbox); have n2_ := ge_ hg (pb HB); have n3_ := ge_ hg (pb HB); clear HB; have HB := n0_; have BKz1 := n1_; have GWz1 := n2_; have GEz1 := n3_; clear n0_ n1_ n2_ n3_; clear hb hbox hg) | ((with_reducible refine gate_dst (N := 3) rfl ?_); (try (refine gate_guard (by rfl) ?_; dsimp only)); refine box_event ?hg (N := 3) ?hd (cs := #[.slice A1_0 l1_0.length c1_0, .slice A1_1 l1_1.length c1_1]) (t := 30) ?hr ?_; (case hd => rfl); (case hg => rfl); (case hr => first | (go_simp; done) | (go_simp; rfl)); intro gbz2 hg w5 hbox hb; have n0_ := am (blk_below (pk BKz1) hb); have n1_ := am (below_step (by repeat first | (with_reducible first | exact HB.out | apply ba | apply bn | apply bd | refine bs (by assumption) ?_) | exact HB.out) hb); have n2_ := am (hbox); have n3_ := ge_ hg (by repeat first | (with_reducible first | exact HB.out | apply ba | apply bn | apply bd | refine bs (by assumption) ?_) | exact HB.out); have n4_ := ge_ hg (by repeat first | (with_reducible first | exact HB.out | apply ba | apply bn | apply bd | refine bs (by assumption) ?_) | exact HB.out); have n5_ := nl_ hg BKz1; have n6_ := ng_ hg BKz1; clear BKz1; clear HB; have BKz1 := n0_; have HB := n1_; have BKz2 := n2_; have GWz2 := n3_; have GEz2 := n4_; have NBz1_z2 := n5_; have NBz2_z1 := n6_; clear n0_ n1_ n2_ n3_ n4_ n5_ n6_; clear hb hbox hg)); go_upto_region 1 with (first | ((with_reducible refine gate_dst (N := 2) rfl ?_); (try (refine gate_guard (by rfl) ?_; dsimp only)); refine box_event ?hg (N := 2) ?hd (cs := #[.slice A0_0 l0_0.length c0_0, .slice A0_1 l0_1.length c0_1]) (t := 30) ?hr ?_; (case hd => rfl); (case hg => rfl); (case hr => first | (go_simp; done) | (go_simp; rfl)); intro gbz1 hg w4 hbox hb; have n0_ := am (below_step (pb HB) hb); have n1_ := am (hbox); have n2_ := ge_ hg (pb HB); have n3_ := ge_ hg (pb HB); clear HB; have HB := n0_; have BKz1 := n1_; have GWz1 := n2_; have GEz1 := n3_; clear n0_ n1_ n2_ n3_; clear hb hbox hg) | ((with_reducible refine gate_dst (N := 3) rfl ?_); (try (refine gate_guard (by rfl) ?_; dsimp only)); refine box_event ?hg (N := 3) ?hd (cs := #[.slice A1_0 l1_0.length c1_0, .slice A1_1 l1_1.length c1_1]) (t := 30) ?hr ?_; (case hd => rfl); (case hg => rfl); (case hr => first | (go_simp; done) | (go_simp; rfl)); intro gbz2 hg w5 hbox hb; have n0_ := am (blk_below (pk BKz1) hb); have n1_ := am (below_step (by repeat first | (with_reducible first | exact HB.out | apply ba | apply bn | apply bd | refine bs (by assumption) ?_) | exact HB.out) hb); have n2_ := am (hbox); have n3_ := ge_ hg (by repeat first | (with_reducible first | exact HB.out | apply ba | apply bn | apply bd | refine bs (by assumption) ?_) | exact HB.out); have n4_ := ge_ hg (by repeat first | (with_reducible first | exact HB.out | apply ba | apply bn | apply bd | refine bs (by assumption) ?_) | exact HB.out); have n5_ := nl_ hg BKz1; have n6_ := ng_ hg BKz1; clear BKz1; clear HB; have BKz1 := n0_; have HB := n1_; have BKz2 := n2_; have GWz2 := n3_; have GEz2 := n4_; have NBz1_z2 := n5_; have NBz2_z1 := n6_; clear n0_ n1_ n2_ n3_ n4_ n5_ n6_; clear hb hbox hg)))
 (try simp only [Act.put, List.setIfInBounds_toArray, List.set_cons_zero, List.set_cons_succ])
 go_cut [22] (fun v22 wc => ∃ (kq : Nat) (x22_2 : Bool), v22 = .bool x22_2 ∧ Aside0 (columbariumref14_Same.j0 kq x22_2 l0_0 l0_1 l1_0 l1_1 = some r) ∧ Aside0 (kq ≤ k) ∧ Aside0 (wc.heap[gbz1]? = some (.cells #[(.slice A0_0 l0_0.length c0_0), (.slice A0_1 l0_1.length c0_1)] 30 (0, 0))) ∧ Aside0 (wc.heap[gbz2]? = some (.cells #[(.slice A1_0 l1_0.length c1_0), (.slice A1_1 l1_1.length c1_1)] 30 (0, 0))) ∧ Aside0 (Below w.heap.size w wc))
 case first =>
  have H := HC3.out
  clear HC3
  by_cases c6 : (l0_0.length : Int) = (l1_0.length : Int)
  rotate_left
  ·rw [if_neg c6] at H
   have c6b0 : ((l0_0.length : Int) == (l1_0.length : Int)) = false := beq_eq_false_iff_ne.mpr c6
   have c6b1 : ((l0_0.length : Int) != (l1_0.length : Int)) = true := bne_iff_ne.mpr c6
   have c6b2 : (l0_0.length == l1_0.length) = false := by first | simpa using c6 | (simp at c6 ⊢; omega)
   (first | rw [c6b0] | rw [c6b1] | (simp only [i64_w, i32_w]; rw [c6b0]) | skip)
   have H' := am H
   clear H
   have hnb10 := NBz1_z2.out
   have hnc10 := NBz2_z1.out
   obtain ⟨hcz11_0, hcz11_1⟩ := bc2 BKz1
   obtain ⟨hfz11_0, hfz11_1⟩ := bf2 BKz1
   obtain ⟨hcz12_0, hcz12_1⟩ := bc2 BKz2
   obtain ⟨hfz12_0, hfz12_1⟩ := bf2 BKz2
   go_wp2
   repeat (go_quiet (fail); try go_wp2)
   go_meet
   case rel => exact ⟨_, (true), (by first | rfl | (simp; done) | (simp [*]; done)), H', ⟨by first | omega | exact Nat.le_refl _⟩, ⟨by (with_reducible repeat (first | refine blk_drewN ?_ _ | refine blk_drew ?_ | refine blk_alloc ?_ _)); exact BKz1.out⟩, ⟨by (with_reducible repeat (first | refine blk_drewN ?_ _ | refine blk_drew ?_ | refine blk_alloc ?_ _)); exact BKz2.out⟩, ⟨by repeat first | (with_reducible first | exact HB.out | apply ba | apply bn | apply bd | refine bs (by assumption) ?_) | exact HB.out⟩⟩
  rw [if_pos c6] at H
  have c6b0 : ((l0_0.length : Int) == (l1_0.length : Int)) = true := beq_iff_eq.mpr c6
  have c6b1 : ((l0_0.length : Int) != (l1_0.length : Int)) = false := bne_eq_false_iff_eq.mpr c6
  have c6b2 : (l0_0.length == l1_0.length) = true := by first | simpa using c6 | (simp at c6 ⊢; omega)
  clear c6
  (first | rw [c6b0] | rw [c6b1] | (simp only [i64_w, i32_w]; rw [c6b0]) | skip)
  have H' := am H
  clear H
  have hnb7 := NBz1_z2.out
  have hnc7 := NBz2_z1.out
  obtain ⟨hcz8_0, hcz8_1⟩ := bc2 BKz1
  obtain ⟨hfz8_0, hfz8_1⟩ := bf2 BKz1
  obtain ⟨hcz9_0, hcz9_1⟩ := bc2 BKz2
  obtain ⟨hfz9_0, hfz9_1⟩ := bf2 BKz2
  go_wp2
  repeat (go_quiet (fail); try go_wp2)
  go_meet
  case rel => exact ⟨_, (((l0_1.length : Int) != (l1_1.length : Int))), (by first | rfl | (simp; done) | (simp [*]; done)), H', ⟨by first | omega | exact Nat.le_refl _⟩, ⟨by (with_reducible repeat (first | refine blk_drewN ?_ _ | refine blk_drew ?_ | refine blk_alloc ?_ _)); exact BKz1.out⟩, ⟨by (with_reducible repeat (first | refine blk_drewN ?_ _ | refine blk_drew ?_ | refine blk_alloc ?_ _)); exact BKz2.out⟩, ⟨by repeat first | (with_reducible first | exact HB.out | apply ba | apply bn | apply bd | refine bs (by assumption) ?_) | exact HB.out⟩⟩
 clear HC3
 try clear c1
 try clear p2
 try clear c6
 try clear c6b0
 try clear c6b1
 try clear c6b2
 try clear c7
 try clear c10
 try clear hcz11_0
 try clear hcz11_1
 try clear hcz12_0
 try clear hcz12_1
 try clear hcz8_0
 try clear hcz8_1
 try clear hcz9_0
 try clear hcz9_1
 try clear hfz11_0
 try clear hfz11_1
 try clear hfz12_0
 try clear hfz12_1
 try clear hfz8_0
 try clear hfz8_1
 try clear hfz9_0
 try clear hfz9_1
 obtain ⟨kq, x22_2, rfl, HA, HJ2, BKz1, BKz2, HB⟩ := hcut
 cases kq with
 | zero => exact absurd HA.out (by simp [columbariumref14_Same.j0])
 | succ kj2 => ?_
 have H := HA.out
 clear HA
 simp only [columbariumref14_Same.j0] at H
 by_cases c13 : x22_2 = true
 ·subst c13
  have H1 : (some false) = some r := by rw [if_pos rfl] at H; exact H
  clear H
  have H := H1
  clear H1
  obtain rfl := Option.some.inj H
  go_wp2
  repeat (go_quiet (fail); try go_wp2)
  go_ret
  exact ⟨by first | rfl | (simp <;> rfl) | (simp [*] <;> rfl), by repeat first | (with_reducible first | exact HB.out | apply ba | apply bn | apply bd | refine bs (by assumption) ?_) | exact HB.out⟩
 replace c13 := Bool.eq_false_iff.mpr c13
 subst c13
 have H1 : (columbariumref14_Same.l0 kj2 0 l0_0 l0_1 l1_0 l1_1) = some r := by rw [if_neg (show ¬ (false = true) by decide)] at H; exact H
 clear H
 have H := H1
 clear H1
 have H' := am H
 clear H
 go_wp2
 repeat (go_quiet (fail); try go_wp2)
 go_loopg [5] kj2 (fun kq v5 w' => ∃ (x5_2 : Int), v5 = .int .i64 x5_2 ∧ Aside0 (columbariumref14_Same.l0 kq x5_2 l0_0 l0_1 l1_0 l1_1 = some r) ∧ Aside0 (kq ≤ kj2) ∧ Aside0 (w'.heap[gbz1]? = some (.cells #[(.slice A0_0 l0_0.length c0_0), (.slice A0_1 l0_1.length c0_1)] 30 (0, 0))) ∧ Aside0 (w'.heap[gbz2]? = some (.cells #[(.slice A1_0 l1_0.length c1_0), (.slice A1_1 l1_1.length c1_1)] 30 (0, 0))) ∧ Aside0 (Below w.heap.size w w'))
 case atStart => exact ⟨(0), (by first | rfl | (simp; done) | (simp [*]; done)), H', ⟨Nat.le_refl _⟩, ⟨by (with_reducible repeat (first | refine blk_drewN ?_ _ | refine blk_drew ?_ | refine blk_alloc ?_ _)); exact BKz1.out⟩, ⟨by (with_reducible repeat (first | refine blk_drewN ?_ _ | refine blk_drew ?_ | refine blk_alloc ?_ _)); exact BKz2.out⟩, ⟨by repeat first | (with_reducible first | exact HB.out | apply ba | apply bn | apply bd | refine bs (by assumption) ?_) | exact HB.out⟩⟩
 clear H'
 try clear c1
 try clear p2
 try clear c6
 try clear c6b0
 try clear c6b1
 try clear c6b2
 try clear c7
 try clear c10
 try clear c13
 try clear hcz11_0
 try clear hcz11_1
 try clear hcz12_0
 try clear hcz12_1
 try clear hcz8_0
 try clear hcz8_1
 try clear hcz9_0
 try clear hcz9_1
 try clear hfz11_0
 try clear hfz11_1
 try clear hfz12_0
 try clear hfz12_1
 try clear hfz8_0
 try clear hfz8_1
 try clear hfz9_0
 try clear hfz9_1
 try clear p2
 obtain ⟨x5_2, rfl, HA, HK2, BKz1, BKz2, HB⟩ := hrel
 cases gk with
 | zero => exact absurd HA.out (by simp [columbariumref14_Same.l0])
 | succ k2 => ?_
 have H := HA.out
 clear HA
 simp only [columbariumref14_Same.l0] at H
 by_cases c14 : x5_2 < (l0_0.length : Int)
 ·rw [if_pos c14] at H
  have c14b0 : decide (x5_2 < (l0_0.length : Int)) = true := decide_eq_true c14
  clear c14
  by_cases c15 : 0 ≤ x5_2
  rotate_left
  ·rw [if_neg c15] at H
   exact absurd H (by simp)
  rw [if_pos c15] at H
  have c15b0 : decide (0 ≤ x5_2) = true := decide_eq_true c15
  clear c15
  by_cases c16 : x5_2 < (l1_0.length : Int)
  rotate_left
  ·rw [if_neg c16] at H
   exact absurd H (by simp)
  rw [if_pos c16] at H
  have c16b0 : decide (x5_2 < (l1_0.length : Int)) = true := decide_eq_true c16
  clear c16
  by_cases c17 : (rdOf ByteArray.empty l0_0 x5_2).toList = (rdOf ByteArray.empty l1_0 x5_2).toList
  rotate_left
  ·rw [if_neg c17] at H
   have c17b0 : ((rdOf ByteArray.empty l0_0 x5_2).toList == (rdOf ByteArray.empty l1_0 x5_2).toList) = false := beq_eq_false_iff_ne.mpr c17
   have c17b1 : ((rdOf ByteArray.empty l0_0 x5_2).toList != (rdOf ByteArray.empty l1_0 x5_2).toList) = true := bne_iff_ne.mpr c17
   obtain rfl := Option.some.inj H
   have hnb21 := NBz1_z2.out
   have hnc21 := NBz2_z1.out
   obtain ⟨hcz22_0, hcz22_1⟩ := bc2 BKz1
   obtain ⟨hfz22_0, hfz22_1⟩ := bf2 BKz1
   have pz3 : 0 ≤ (x5_2 : Int) := of_decide_eq_true (by first | (with_reducible assumption) | assumption)
   have qz3 : x5_2 < (l0_0.length : Int) := of_decide_eq_true (by first | (with_reducible assumption) | assumption)
   obtain ⟨adz3, ez3, hxz3_0⟩ := Kd.at_string HR0_0.out x5_2 pz3 qz3
   cases ez3
   replace hxz3_0 := (HB.out.cell (World.block_lt_of_cell? w _ hxz3_0)).trans hxz3_0
   replace pz3 := eq_true pz3
   replace qz3 := eq_true qz3
   obtain ⟨hcz23_0, hcz23_1⟩ := bc2 BKz2
   obtain ⟨hfz23_0, hfz23_1⟩ := bf2 BKz2
   have pz4 : 0 ≤ (x5_2 : Int) := of_decide_eq_true (by first | (with_reducible assumption) | assumption)
   have qz4 : x5_2 < (l1_0.length : Int) := of_decide_eq_true (by first | (with_reducible assumption) | assumption)
   obtain ⟨adz4, ez4, hxz4_0⟩ := Kd.at_string HR1_0.out x5_2 pz4 qz4
   cases ez4
   replace hxz4_0 := (HB.out.cell (World.block_lt_of_cell? w _ hxz4_0)).trans hxz4_0
   replace pz4 := eq_true pz4
   replace qz4 := eq_true qz4
   go_wp2
   repeat (go_quiet (fail); try go_wp2)
   go_ret
   exact ⟨by first | rfl | (simp <;> rfl) | (simp [*] <;> rfl), by repeat first | (with_reducible first | exact HB.out | apply ba | apply bn | apply bd | refine bs (by assumption) ?_) | exact HB.out⟩
  rw [if_pos c17] at H
  have c17b0 : ((rdOf ByteArray.empty l0_0 x5_2).toList == (rdOf ByteArray.empty l1_0 x5_2).toList) = true := beq_iff_eq.mpr c17
  have c17b1 : ((rdOf ByteArray.empty l0_0 x5_2).toList != (rdOf ByteArray.empty l1_0 x5_2).toList) = false := bne_eq_false_iff_eq.mpr c17
  clear c17
  have H' := am H
  clear H
  have hnb18 := NBz1_z2.out
  have hnc18 := NBz2_z1.out
  obtain ⟨hcz19_0, hcz19_1⟩ := bc2 BKz1
  obtain ⟨hfz19_0, hfz19_1⟩ := bf2 BKz1
  have pz3 : 0 ≤ (x5_2 : Int) := of_decide_eq_true (by first | (with_reducible assumption) | assumption)
  have qz3 : x5_2 < (l0_0.length : Int) := of_decide_eq_true (by first | (with_reducible assumption) | assumption)
  obtain ⟨adz3, ez3, hxz3_0⟩ := Kd.at_string HR0_0.out x5_2 pz3 qz3
  cases ez3
  replace hxz3_0 := (HB.out.cell (World.block_lt_of_cell? w _ hxz3_0)).trans hxz3_0
  replace pz3 := eq_true pz3
  replace qz3 := eq_true qz3
  obtain ⟨hcz20_0, hcz20_1⟩ := bc2 BKz2
  obtain ⟨hfz20_0, hfz20_1⟩ := bf2 BKz2
  have pz4 : 0 ≤ (x5_2 : Int) := of_decide_eq_true (by first | (with_reducible assumption) | assumption)
  have qz4 : x5_2 < (l1_0.length : Int) := of_decide_eq_true (by first | (with_reducible assumption) | assumption)
  obtain ⟨adz4, ez4, hxz4_0⟩ := Kd.at_string HR1_0.out x5_2 pz4 qz4
  cases ez4
  replace hxz4_0 := (HB.out.cell (World.block_lt_of_cell? w _ hxz4_0)).trans hxz4_0
  replace pz4 := eq_true pz4
  replace qz4 := eq_true qz4
  go_wp2
  repeat (go_quiet (fail); try go_wp2)
  go_roundg k2
  case measure => have := HJ2.out; have := HK2.out; omega
  case rel => exact ⟨(wrap64 (x5_2 + 1)), (by first | rfl | (simp; done) | (simp [*]; done)), H', ⟨by have := HJ2.out; have := HK2.out; omega⟩, ⟨by (with_reducible repeat (first | refine blk_drewN ?_ _ | refine blk_drew ?_ | refine blk_alloc ?_ _)); exact BKz1.out⟩, ⟨by (with_reducible repeat (first | refine blk_drewN ?_ _ | refine blk_drew ?_ | refine blk_alloc ?_ _)); exact BKz2.out⟩, ⟨by repeat first | (with_reducible first | exact HB.out | apply ba | apply bn | apply bd | refine bs (by assumption) ?_) | exact HB.out⟩⟩
 rw [if_neg c14] at H
 have c14b0 : decide (x5_2 < (l0_0.length : Int)) = false := decide_eq_false c14
 clear c14
 have H' := am H
 clear H
 have hnb24 := NBz1_z2.out
 have hnc24 := NBz2_z1.out
 obtain ⟨hcz25_0, hcz25_1⟩ := bc2 BKz1
 obtain ⟨hfz25_0, hfz25_1⟩ := bf2 BKz1
 go_wp2
 repeat (go_quiet (fail); try go_wp2)
 go_loopg [6] k2 (fun kq v6 w' => ∃ (x6_3 : Int), v6 = .int .i64 x6_3 ∧ Aside0 (columbariumref14_Same.l1 kq x6_3 l0_0 l0_1 l1_0 l1_1 = some r) ∧ Aside0 (kq ≤ k2) ∧ Aside0 (w'.heap[gbz1]? = some (.cells #[(.slice A0_0 l0_0.length c0_0), (.slice A0_1 l0_1.length c0_1)] 30 (0, 0))) ∧ Aside0 (w'.heap[gbz2]? = some (.cells #[(.slice A1_0 l1_0.length c1_0), (.slice A1_1 l1_1.length c1_1)] 30 (0, 0))) ∧ Aside0 (Below w.heap.size w w'))
 case atStart => exact ⟨(0), (by first | rfl | (simp; done) | (simp [*]; done)), H', ⟨Nat.le_refl _⟩, ⟨by (with_reducible repeat (first | refine blk_drewN ?_ _ | refine blk_drew ?_ | refine blk_alloc ?_ _)); exact BKz1.out⟩, ⟨by (with_reducible repeat (first | refine blk_drewN ?_ _ | refine blk_drew ?_ | refine blk_alloc ?_ _)); exact BKz2.out⟩, ⟨by repeat first | (with_reducible first | exact HB.out | apply ba | apply bn | apply bd | refine bs (by assumption) ?_) | exact HB.out⟩⟩
 clear H'
 try clear c1
 try clear p1
 try clear q1
 try clear hx1
 try clear c2
 try clear p2
 try clear c6
 try clear c6b0
 try clear c6b1
 try clear c6b2
 try clear p6
 try clear c7
 try clear c10
 try clear c13
 try clear c14
 try clear c14b0
 try clear c15
 try clear c15b0
 try clear p15
 try clear q15
 try clear hx15
 try clear c16
 try clear c16b0
 try clear c17
 try clear c17b0
 try clear c17b1
 try clear c18
 try clear c21
 try clear c24
 try clear hcz11_0
 try clear hcz11_1
 try clear hcz12_0
 try clear hcz12_1
 try clear hcz19_0
 try clear hcz19_1
 try clear hcz20_0
 try clear hcz20_1
 try clear hcz22_0
 try clear hcz22_1
 try clear hcz23_0
 try clear hcz23_1
 try clear hcz25_0
 try clear hcz25_1
 try clear hcz8_0
 try clear hcz8_1
 try clear hcz9_0
 try clear hcz9_1
 try clear hfz11_0
 try clear hfz11_1
 try clear hfz12_0
 try clear hfz12_1
 try clear hfz19_0
 try clear hfz19_1
 try clear hfz20_0
 try clear hfz20_1
 try clear hfz22_0
 try clear hfz22_1
 try clear hfz23_0
 try clear hfz23_1
 try clear hfz25_0
 try clear hfz25_1
 try clear hfz8_0
 try clear hfz8_1
 try clear hfz9_0
 try clear hfz9_1
 try clear hxz3_0
 try clear hxz4_0
 try clear pz3
 try clear pz4
 try clear p2
 try clear qz3
 try clear qz4
 obtain ⟨x6_3, rfl, HA, HK3, BKz1, BKz2, HB⟩ := hrel
 cases gk with
 | zero => exact absurd HA.out (by simp [columbariumref14_Same.l1])
 | succ k3 => ?_
 have H := HA.out
 clear HA
 simp only [columbariumref14_Same.l1] at H
 by_cases c26 : x6_3 < (l0_1.length : Int)
 rotate_left
 ·rw [if_neg c26] at H
  have c26b0 : decide (x6_3 < (l0_1.length : Int)) = false := decide_eq_false c26
  clear c26
  obtain rfl := Option.some.inj H
  have hnb36 := NBz1_z2.out
  have hnc36 := NBz2_z1.out
  obtain ⟨hcz37_0, hcz37_1⟩ := bc2 BKz1
  obtain ⟨hfz37_0, hfz37_1⟩ := bf2 BKz1
  go_wp2
  repeat (go_quiet (fail); try go_wp2)
  go_ret
  exact ⟨by first | rfl | (simp <;> rfl) | (simp [*] <;> rfl), by repeat first | (with_reducible first | exact HB.out | apply ba | apply bn | apply bd | refine bs (by assumption) ?_) | exact HB.out⟩
 rw [if_pos c26] at H
 have c26b0 : decide (x6_3 < (l0_1.length : Int)) = true := decide_eq_true c26
 clear c26
 by_cases c27 : 0 ≤ x6_3
 rotate_left
 ·rw [if_neg c27] at H
  exact absurd H (by simp)
 rw [if_pos c27] at H
 have c27b0 : decide (0 ≤ x6_3) = true := decide_eq_true c27
 clear c27
 by_cases c28 : x6_3 < (l1_1.length : Int)
 rotate_left
 ·rw [if_neg c28] at H
  exact absurd H (by simp)
 rw [if_pos c28] at H
 have c28b0 : decide (x6_3 < (l1_1.length : Int)) = true := decide_eq_true c28
 clear c28
 by_cases c29 : (!(((rd_T24 l0_1 x6_3).f0) == ((rd_T24 l1_1 x6_3).f0)) || (!(((rd_T24 l0_1 x6_3).f1) == ((rd_T24 l1_1 x6_3).f1)) || (!((((rd_T24 l0_1 x6_3).f2).toList) == (((rd_T24 l1_1 x6_3).f2).toList))))) = true
 ·rw [if_pos c29] at H
  have c29b0 : (!(((rd_T24 l0_1 x6_3).f0) == ((rd_T24 l1_1 x6_3).f0)) || (!(((rd_T24 l0_1 x6_3).f1) == ((rd_T24 l1_1 x6_3).f1)) || (!((((rd_T24 l0_1 x6_3).f2).toList) == (((rd_T24 l1_1 x6_3).f2).toList))))) = true := c29
  clear c29
  obtain rfl := Option.some.inj H
  have hnb30 := NBz1_z2.out
  have hnc30 := NBz2_z1.out
  obtain ⟨hcz31_0, hcz31_1⟩ := bc2 BKz1
  obtain ⟨hfz31_0, hfz31_1⟩ := bf2 BKz1
  have pz5 : 0 ≤ (x6_3 : Int) := of_decide_eq_true (by first | (with_reducible assumption) | assumption)
  have qz5 : x6_3 < (l0_1.length : Int) := of_decide_eq_true (by first | (with_reducible assumption) | assumption)
  obtain ⟨adz5, ez5, hxz5_0, hxz5_1, hxz5_2⟩ := at_T24 HR0_1.out x6_3 pz5 qz5
  cases ez5
  replace hxz5_0 := (HB.out.cell (World.block_lt_of_cell? w _ hxz5_0)).trans hxz5_0
  replace hxz5_1 := (HB.out.cell (World.block_lt_of_cell? w _ hxz5_1)).trans hxz5_1
  replace hxz5_2 := (HB.out.cell (World.block_lt_of_cell? w _ hxz5_2)).trans hxz5_2
  replace pz5 := eq_true pz5
  replace qz5 := eq_true qz5
  obtain ⟨hcz32_0, hcz32_1⟩ := bc2 BKz2
  obtain ⟨hfz32_0, hfz32_1⟩ := bf2 BKz2
  have pz6 : 0 ≤ (x6_3 : Int) := of_decide_eq_true (by first | (with_reducible assumption) | assumption)
  have qz6 : x6_3 < (l1_1.length : Int) := of_decide_eq_true (by first | (with_reducible assumption) | assumption)
  obtain ⟨adz6, ez6, hxz6_0, hxz6_1, hxz6_2⟩ := at_T24 HR1_1.out x6_3 pz6 qz6
  cases ez6
  replace hxz6_0 := (HB.out.cell (World.block_lt_of_cell? w _ hxz6_0)).trans hxz6_0
  replace hxz6_1 := (HB.out.cell (World.block_lt_of_cell? w _ hxz6_1)).trans hxz6_1
  replace hxz6_2 := (HB.out.cell (World.block_lt_of_cell? w _ hxz6_2)).trans hxz6_2
  replace pz6 := eq_true pz6
  replace qz6 := eq_true qz6
  go_wp2
  repeat (go_quiet (fail); try go_wp2)
  go_ret
  exact ⟨by first | rfl | (simp <;> rfl) | (simp [*] <;> rfl), by repeat first | (with_reducible first | exact HB.out | apply ba | apply bn | apply bd | refine bs (by assumption) ?_) | exact HB.out⟩
 rw [if_neg c29] at H
 have c29b0 : (!(((rd_T24 l0_1 x6_3).f0) == ((rd_T24 l1_1 x6_3).f0)) || (!(((rd_T24 l0_1 x6_3).f1) == ((rd_T24 l1_1 x6_3).f1)) || (!((((rd_T24 l0_1 x6_3).f2).toList) == (((rd_T24 l1_1 x6_3).f2).toList))))) = false := by simpa using c29
 clear c29
 have H' := am H
 clear H
 have hnb33 := NBz1_z2.out
 have hnc33 := NBz2_z1.out
 obtain ⟨hcz34_0, hcz34_1⟩ := bc2 BKz1
 obtain ⟨hfz34_0, hfz34_1⟩ := bf2 BKz1
 have pz5 : 0 ≤ (x6_3 : Int) := of_decide_eq_true (by first | (with_reducible assumption) | assumption)
 have qz5 : x6_3 < (l0_1.length : Int) := of_decide_eq_true (by first | (with_reducible assumption) | assumption)
 obtain ⟨adz5, ez5, hxz5_0, hxz5_1, hxz5_2⟩ := at_T24 HR0_1.out x6_3 pz5 qz5
 cases ez5
 replace hxz5_0 := (HB.out.cell (World.block_lt_of_cell? w _ hxz5_0)).trans hxz5_0
 replace hxz5_1 := (HB.out.cell (World.block_lt_of_cell? w _ hxz5_1)).trans hxz5_1
 replace hxz5_2 := (HB.out.cell (World.block_lt_of_cell? w _ hxz5_2)).trans hxz5_2
 replace pz5 := eq_true pz5
 replace qz5 := eq_true qz5
 obtain ⟨hcz35_0, hcz35_1⟩ := bc2 BKz2
 obtain ⟨hfz35_0, hfz35_1⟩ := bf2 BKz2
 have pz6 : 0 ≤ (x6_3 : Int) := of_decide_eq_true (by first | (with_reducible assumption) | assumption)
 have qz6 : x6_3 < (l1_1.length : Int) := of_decide_eq_true (by first | (with_reducible assumption) | assumption)
 obtain ⟨adz6, ez6, hxz6_0, hxz6_1, hxz6_2⟩ := at_T24 HR1_1.out x6_3 pz6 qz6
 cases ez6
 replace hxz6_0 := (HB.out.cell (World.block_lt_of_cell? w _ hxz6_0)).trans hxz6_0
 replace hxz6_1 := (HB.out.cell (World.block_lt_of_cell? w _ hxz6_1)).trans hxz6_1
 replace hxz6_2 := (HB.out.cell (World.block_lt_of_cell? w _ hxz6_2)).trans hxz6_2
 replace pz6 := eq_true pz6
 replace qz6 := eq_true qz6
 go_wp2
 repeat (go_quiet (fail); try go_wp2)
 go_roundg k3
 case measure => have := HJ2.out; have := HK2.out; have := HK3.out; omega
 case rel => exact ⟨(wrap64 (x6_3 + 1)), (by first | rfl | (simp; done) | (simp [*]; done)), H', ⟨by have := HJ2.out; have := HK2.out; have := HK3.out; omega⟩, ⟨by (with_reducible repeat (first | refine blk_drewN ?_ _ | refine blk_drew ?_ | refine blk_alloc ?_ _)); exact BKz1.out⟩, ⟨by (with_reducible repeat (first | refine blk_drewN ?_ _ | refine blk_drew ?_ | refine blk_alloc ?_ _)); exact BKz2.out⟩, ⟨by repeat first | (with_reducible first | exact HB.out | apply ba | apply bn | apply bd | refine bs (by assumption) ?_) | exact HB.out⟩⟩

end Go.Proofs.Ytcfinlmocgbnbaa.Pr
