-- Written by wip/tools/xprint.py, a patched run of the kit's print: not typed by hand.
import Derived.Test.YtcfinlmocgbnbaaXSq
import Derived.Test.YtcfinlmocgbnbaaPr0
namespace Go.Proofs.Ytcfinlmocgbnbaa.Pr
open Go.Proofs.Ytcfinlmocgbnbaa.Sq Go.RowKit Go.Proofs.YtcfinlmocgbnbaaW.PrintWords Go.Proofs.YtcfinlmocgbnbaaW.PrintLast Go.Proofs.YtcfinlmocgbnbaaW.PrintMore
attribute [local go_sem] max2_int min2_int max_two min_two max_three min_three max_four min_four   -- for this text's walks alone
set_option linter.unusedVariables false
set_option linter.unusedSimpArgs false

/-! ### columbariumref14_fallen: function 42 -/
def columbariumref14_fallen.l0 : Nat → List Int → Int → List ByteArray → List (S24) → List ByteArray → Option (List ByteArray × (List (S24)))
 | 0, _, _, _, _, _ => none
 | k + 1, x1, x6, xz2000, xz2001, xz7000 => if x6 < (xz2001.length : Int) then (if 0 ≤ x6 then (if x6 < (x1.length : Int) then (if 0 ≤ (mx 0 (mn (rd x1 x6) 64)) then (if (mx 0 (mn (rd x1 x6) 64)) ≤ (((rd_T24 xz2001 x6).f2).size : Int) then (if 0 ≤ ((rd_T24 xz2001 x6).f1) then (if ((rd_T24 xz2001 x6).f1) < (xz7000.length : Int) then (if (mx 0 (mn (rd x1 x6) 64)) ≤ ((rdOf ByteArray.empty xz7000 ((rd_T24 xz2001 x6).f1)).size : Int) then (if (((rd_T24 xz2001 x6).f2).extract 0 ((mx 0 (mn (rd x1 x6) 64)) : Int).toNat).size + ((rdOf ByteArray.empty xz7000 ((rd_T24 xz2001 x6).f1)).extract ((mx 0 (mn (rd x1 x6) 64)) : Int).toNat (rdOf ByteArray.empty xz7000 ((rd_T24 xz2001 x6).f1)).size).size ≤ 9223372036854775807 then (columbariumref14_fallen.l0 k x1 (wrap64 (x6 + 1)) xz2000 xz2001 (xz7000.set (((rd_T24 xz2001 x6).f1) : Int).toNat ((((rd_T24 xz2001 x6).f2).extract 0 ((mx 0 (mn (rd x1 x6) 64)) : Int).toNat) ++ ((rdOf ByteArray.empty xz7000 ((rd_T24 xz2001 x6).f1)).extract ((mx 0 (mn (rd x1 x6) 64)) : Int).toNat (rdOf ByteArray.empty xz7000 ((rd_T24 xz2001 x6).f1)).size)))) else (none)) else (none)) else (none)) else (none)) else (none)) else (none)) else (if 0 ≤ 0 then (if 0 ≤ (((rd_T24 xz2001 x6).f2).size : Int) then (if 0 ≤ ((rd_T24 xz2001 x6).f1) then (if ((rd_T24 xz2001 x6).f1) < (xz7000.length : Int) then (if 0 ≤ ((rdOf ByteArray.empty xz7000 ((rd_T24 xz2001 x6).f1)).size : Int) then (if (((rd_T24 xz2001 x6).f2).extract 0 0).size + ((rdOf ByteArray.empty xz7000 ((rd_T24 xz2001 x6).f1)).extract 0 (rdOf ByteArray.empty xz7000 ((rd_T24 xz2001 x6).f1)).size).size ≤ 9223372036854775807 then (columbariumref14_fallen.l0 k x1 (wrap64 (x6 + 1)) xz2000 xz2001 (xz7000.set (((rd_T24 xz2001 x6).f1) : Int).toNat ((((rd_T24 xz2001 x6).f2).extract 0 0) ++ ((rdOf ByteArray.empty xz7000 ((rd_T24 xz2001 x6).f1)).extract 0 (rdOf ByteArray.empty xz7000 ((rd_T24 xz2001 x6).f1)).size)))) else (none)) else (none)) else (none)) else (none)) else (none)) else (none))) else (none)) else (some (xz7000, ([] : List (S24))))
def columbariumref14_fallen.f (k : Nat) (l0_0 : List ByteArray) (l0_1 : List (S24)) (l1 : List Int) : Option (List ByteArray × (List (S24))) := if ([] : List ByteArray).length + l0_0.length < 8796093022208 then (columbariumref14_fallen.l0 k l1 0 l0_0 l0_1 (([] : List ByteArray) ++ l0_0)) else (none)
theorem columbariumref14_fallen.mono_l : ∀ k, (∀ y0 y1 y2 y3 y4, LeO (columbariumref14_fallen.l0 k y0 y1 y2 y3 y4) (columbariumref14_fallen.l0 (k + 1) y0 y1 y2 y3 y4))
 | 0 => fun _ _ _ _ _ r h => by simp [columbariumref14_fallen.l0] at h
 | k + 1 => by
  have ih0 := columbariumref14_fallen.mono_l k
  ·intro y0 y1 y2 y3 y4
   unfold columbariumref14_fallen.l0
   repeat' first
   | (with_reducible exact ih0 _ _ _ _ _)
   | (with_reducible exact LeO.refl _)
   | (with_reducible exact LeO.none _)
   | (with_reducible refine LeO.ite ?_ ?_)
   | (with_reducible refine LeO.bind ?_ (fun _ => ?_))
   | exact ih0 _ _ _ _ _
   | exact LeO.none _
   | refine LeO.ite ?_ ?_
   | refine LeO.bind ?_ (fun _ => ?_)
theorem columbariumref14_fallen.mono : ∀ a0 a1 a2 k, LeO (columbariumref14_fallen.f k a0 a1 a2) (columbariumref14_fallen.f (k + 1) a0 a1 a2) := by
 intro a0 a1 a2 k
 have ih0 := columbariumref14_fallen.mono_l k
 unfold columbariumref14_fallen.f
 repeat' first
  | (with_reducible exact ih0 _ _ _ _ _)
  | (with_reducible exact LeO.refl _)
  | (with_reducible exact LeO.none _)
  | (with_reducible refine LeO.ite ?_ ?_)
  | (with_reducible refine LeO.bind ?_ (fun _ => ?_))
  | exact ih0 _ _ _ _ _
  | exact LeO.none _
  | refine LeO.ite ?_ ?_
  | refine LeO.bind ?_ (fun _ => ?_)
def columbariumref14_fallen.T9 : Bool × List (List Nat × List Nat) := (true, [([], []), ([0], [0]), ([], []), ([2], [2]), ([], []), ([4], [4]), ([], []), ([5, 6], [5, 6]), ([], []), ([8], [8]), ([], []), ([10], [10]), ([9, 11], [9, 11]), ([12], [12]), ([], []), ([13, 14], [13, 14]), ([7, 15], [7, 15]), ([1, 3, 0, 1, 2, 3, 4, 5, 6, 7, 8, 9, 10, 11, 12, 13, 14, 15, 16], [1, 3]), ([17, 16, 0, 1, 2, 3, 4, 5, 6, 7, 8, 9, 10, 11, 12, 13, 14, 15, 16], [16, 17])])
def columbariumref14_fallen.B9 : List Nat := [0, 1, 0, 4, 0, 16, 0, 112, 0, 256, 0, 1024, 3840, 7936, 0, 32512, 65520, 131071, 262143]
theorem columbariumref14_fallen.tab9 : rtab .any (opsOf Try.f42 9) = columbariumref14_fallen.T9 := by kernel_rfl
theorem columbariumref14_fallen.bits9 : waitsOk columbariumref14_fallen.T9.2 columbariumref14_fallen.B9 = true := by kernel_rfl
set_option maxHeartbeats 8000000 in
set_option maxRecDepth 100000 in
theorem columbariumref14_fallen.calls (k : Nat) (A0_0 : Option Addr) (c0_0 : Nat) (l0_0 : List ByteArray) (A0_1 : Option Addr) (c0_1 : Nat) (l0_1 : List (S24)) (A1 : Option Addr) (c1 : Nat) (l1 : List Int) (r1 : List ByteArray) (r2 : List (S24)) (w : World) (hr0_0 : Kd.C Kd.string w A0_0 l0_0.length l0_0) (hc0_0 : l0_0.length ≤ c0_0) (hr0_1 : Kd.C k24 w A0_1 l0_1.length l0_1) (hc0_1 : l0_1.length ≤ c0_1) (hr1 : Kd.C (Kd.int .i64) w A1 l1.length l1) (hc1 : l1.length ≤ c1) (h : columbariumref14_fallen.f k l0_0 l0_1 l1 = some (r1, r2)) :
  Calls Try.prog 42 #[.agg #[.slice A0_0 l0_0.length c0_0, .slice A0_1 l0_1.length c0_1], .slice A1 l1.length c1] w fun e w' => ∃ v0_ v1_ : Value, e = .returned (.agg #[v0_, v1_]) ∧ Kd.R Kd.string 9 w' w.heap.size (fun _ => True) v0_ r1 ∧ Kd.R k24 24 w' w.heap.size (fun _ => True) v1_ r2 ∧ Below w.heap.size w w' := by
 have hu30 := Try.underlying30
 have hu24 := Try.underlying24
 have HR0_0 := am hr0_0
 have HC0_0 := am hc0_0
 clear hr0_0 hc0_0
 have HR0_1 := am hr0_1
 have HC0_1 := am hc0_1
 clear hr0_1 hc0_1
 have HR1 := am hr1
 have HC1 := am hc1
 clear hr1 hc1
 have HB := am (Below.refl w.heap.size w)
 have H : (if ([] : List ByteArray).length + l0_0.length < 8796093022208 then (columbariumref14_fallen.l0 k l1 0 l0_0 l0_1 (([] : List ByteArray) ++ l0_0)) else (none)) = some (r1, r2) := h
 clear h
 by_cases c3 : ([] : List ByteArray).length + l0_0.length < 8796093022208
 rotate_left
 ·rw [if_neg c3] at H
  exact absurd H (by simp)
 rw [if_pos c3] at H
 have LMc3 := Aside0.mk c3
 clear c3
 obtain ⟨yz3, hyz3⟩ : ∃ y_ : List ByteArray, y_ = (([] : List ByteArray) ++ l0_0) := ⟨_, rfl⟩
 replace H : (columbariumref14_fallen.l0 k l1 0 l0_0 l0_1 yz3) = some (r1, r2) := by first | (rw [hyz3]; with_reducible exact H) | (have H2_ := (Option.bind_some _ _).symm.trans H; rw [hyz3]; with_reducible exact H2_) | (have H2_ := (Option.bind_some _ _).symm.trans H; with_reducible exact H2_) | with_reducible exact H | (rw [hyz3]; exact H) | exact H
 have Nyz3 := am hyz3
 clear hyz3
 have H' := am H
 clear H
 go_enter Try.func42, Try.ntmps42
 go_wp2_with (first | ((with_reducible refine gate_dst (N := 2) rfl ?_); refine box_event ?hg (N := 2) ?hd (cs := #[.slice A0_0 l0_0.length c0_0, .slice A0_1 l0_1.length c0_1]) (t := 30) ?hr ?_; (case hd => rfl); (case hg => rfl); (case hr => first | (go_simp; done) | (go_simp; rfl)); intro gbz1 hg w4 hbox hb; have n0_ := am (below_step (pb HB) hb); have n1_ := am (hbox); have n2_ := ge_ hg (pb HB); have n3_ := ge_ hg (pb HB); clear HB; have HB := n0_; have BKz1 := n1_; have GWz1 := n2_; have GEz1 := n3_; clear n0_ n1_ n2_ n3_; clear hb hbox hg) | ((with_reducible refine gate_dst (N := 4) rfl ?_); refine box_event ?hg (N := 4) ?hd (cs := #[.slice none 0 0, .slice none 0 0]) (t := 30) ?hr ?_; (case hd => rfl); (case hg => rfl); (case hr => first | (go_simp; done) | (go_simp; rfl)); intro gbz2 hg w5 hbox hb; have n0_ := am (blk_below (pk BKz1) hb); have n1_ := am (below_step (by repeat first | (with_reducible first | exact HB.out | apply ba | apply bn | apply bd | refine bs (by assumption) ?_) | exact HB.out) hb); have n2_ := am (hbox); have n3_ := ge_ hg (by repeat first | (with_reducible first | exact HB.out | apply ba | apply bn | apply bd | refine bs (by assumption) ?_) | exact HB.out); have n4_ := ge_ hg (by repeat first | (with_reducible first | exact HB.out | apply ba | apply bn | apply bd | refine bs (by assumption) ?_) | exact HB.out); have n5_ := nl_ hg BKz1; have n6_ := ng_ hg BKz1; clear BKz1; clear HB; have BKz1 := n0_; have HB := n1_; have BKz2 := n2_; have GWz2 := n3_; have GEz2 := n4_; have NBz1_z2 := n5_; have NBz2_z1 := n6_; clear n0_ n1_ n2_ n3_ n4_ n5_ n6_; clear hb hbox hg; have hnb6 := NBz1_z2.out; have hnc6 := NBz2_z1.out; obtain ⟨hcz7_0, hcz7_1⟩ := bc2 BKz1; obtain ⟨hfz7_0, hfz7_1⟩ := bf2 BKz1) | ((with_reducible refine gate_builtin (b := .append) (xs := #[.const (.slice none 0 0), .tmp 10]) rfl ?_); at_builtin; refine Kd.R_append_rows Kd.string (w0 := w) w.heap.size rfl (.const (.slice none 0 0)) (.tmp 10) 27 9 (.string ⟨#[]⟩) 16 rfl Try.underlying27 info9 rfl (by decide) (by omega) (.slice none 0 0) ([] : List ByteArray) l0_0 _ _ _ (fun _ => True) (fun _ => False) rfl rfl ?aO ?aR (fun _ _ h => h) (fun _ h => h.elim) ?aF ?aB ?aS ?aL ?_; (case aR => repeat (first | exact (Kd.C_below HR0_0.out HB.out) | (with_reducible refine Kd.C_alloc ?_ _) | (with_reducible refine Kd.C_drewN ?_ _) | (with_reducible refine Kd.C_drew ?_))); (case aB => exact (by repeat first | (with_reducible first | exact HB.out | apply ba | apply bn | apply bd | refine bs (by assumption) ?_) | exact HB.out)); (case aF => exact (fun _ _ => trivial)); (case aO => exact ((Kd.R_nil _ _ _ _ (fun _ => True)))); (case aS => exact (below_size (by repeat first | (with_reducible first | exact HB.out | apply ba | apply bn | apply bd | refine bs (by assumption) ?_) | exact HB.out))); (case aL => have := LMc3.out; omega); intro vz4 w8 ho hb hg hat; rw [← Nyz3.out] at ho; have n0_ := am (blk_grown (pk BKz1) hg (by simp [Value.ownBlock])); have n1_ := am (blk_grown (pk BKz2) hg (by simp [Value.ownBlock])); have n2_ := am (hb); have n3_ := am (ho); clear BKz1; clear BKz2; clear HB; have BKz1 := n0_; have BKz2 := n1_; have HB := n2_; have HOz5 := n3_; clear n0_ n1_ n2_ n3_; clear ho hb hg hat; obtain ⟨Ao9, co9, eo9⟩ := Kd.R_slice HOz5.out; subst eo9) | ((with_reducible refine gate_dst (N := 5) rfl ?_); refine box_event ?hg (N := 5) ?hd (cs := #[.slice none 0 0, .slice none 0 0]) (t := 30) ?hr ?_; (case hd => rfl); (case hg => rfl); (case hr => first | (go_simp; done) | (go_simp; rfl)); intro gbz6 hg w10 hbox hb; have n0_ := am (Kd.R_below (pr HOz5) hb); have n1_ := am (blk_below (pk BKz1) hb); have n2_ := am (blk_below (pk BKz2) hb); have n3_ := am (below_step (by repeat first | (with_reducible first | exact HB.out | apply ba | apply bn | apply bd | refine bs (by assumption) ?_) | exact HB.out) hb); have n4_ := am (hbox); have n5_ := ge_ hg (by repeat first | (with_reducible first | exact HB.out | apply ba | apply bn | apply bd | refine bs (by assumption) ?_) | exact HB.out); have n6_ := ge_ hg (by repeat first | (with_reducible first | exact HB.out | apply ba | apply bn | apply bd | refine bs (by assumption) ?_) | exact HB.out); have n7_ := nl_ hg BKz1; have n8_ := ng_ hg BKz1; have n9_ := nl_ hg BKz2; have n10_ := ng_ hg BKz2; clear HOz5; clear BKz1; clear BKz2; clear HB; have HOz5 := n0_; have BKz1 := n1_; have BKz2 := n2_; have HB := n3_; have BKz6 := n4_; have GWz6 := n5_; have GEz6 := n6_; have NBz1_z6 := n7_; have NBz6_z1 := n8_; have NBz2_z6 := n9_; have NBz6_z2 := n10_; clear n0_ n1_ n2_ n3_ n4_ n5_ n6_ n7_ n8_ n9_ n10_; clear hb hbox hg; have hnb11 := NBz6_z1.out; have hnc11 := NBz1_z6.out; have hnb12 := NBz6_z2.out; have hnc12 := NBz2_z6.out; obtain ⟨hcz13_0, hcz13_1⟩ := bc2 BKz6; obtain ⟨hfz13_0, hfz13_1⟩ := bf2 BKz6))
 go_loopg [6] k (fun kq v6 w' => ∃ (x6_1 : Int) (xz7000_1 : List ByteArray) (uz7000 : Value), v6 = .int .i64 x6_1 ∧ Aside0 (columbariumref14_fallen.l0 kq l1 x6_1 l0_0 l0_1 xz7000_1 = some (r1, r2)) ∧ Aside0 (kq ≤ k) ∧ Aside0 (Kd.R Kd.string 9 w' w.heap.size (fun _ => True) uz7000 xz7000_1) ∧ Aside0 (w'.heap[gbz1]? = some (.cells #[(.slice A0_0 l0_0.length c0_0), (.slice A0_1 l0_1.length c0_1)] 30 (0, 0))) ∧ Aside0 (w'.heap[gbz2]? = some (.cells #[(.slice none 0 0), (.slice none 0 0)] 30 (0, 0))) ∧ Aside0 (w'.heap[gbz6]? = some (.cells #[uz7000, (.slice none 0 0)] 30 (0, 0))) ∧ Aside0 (Below w.heap.size w w'))
 case atStart => exact ⟨(0), (yz3), (.slice Ao9 yz3.length co9), (by first | rfl | (simp; done) | (simp [*]; done)), H', ⟨Nat.le_refl _⟩, ⟨by (with_reducible repeat first | apply ra | apply rn | apply rd); exact Kd.R_mono (rf2 (Kd.R_types HOz5.out BKz6.out (by decide)) (fun _ hk => hk.2)) (fun _ hk => trivial)⟩, ⟨by (with_reducible repeat (first | refine blk_drewN ?_ _ | refine blk_drew ?_ | refine blk_alloc ?_ _)); refine blk_far ?_ NBz1_z6.out _; refine blk_far ?_ NBz1_z6.out _; (with_reducible repeat (first | refine blk_drewN ?_ _ | refine blk_drew ?_ | refine blk_alloc ?_ _)); exact BKz1.out⟩, ⟨by (with_reducible repeat (first | refine blk_drewN ?_ _ | refine blk_drew ?_ | refine blk_alloc ?_ _)); refine blk_far ?_ NBz2_z6.out _; refine blk_far ?_ NBz2_z6.out _; (with_reducible repeat (first | refine blk_drewN ?_ _ | refine blk_drew ?_ | refine blk_alloc ?_ _)); exact BKz2.out⟩, ⟨by (with_reducible repeat (first | refine blk_drewN ?_ _ | refine blk_drew ?_ | refine blk_alloc ?_ _)); apply bp2; (with_reducible repeat (first | refine blk_drewN ?_ _ | refine blk_drew ?_ | refine blk_alloc ?_ _)); exact BKz6.out⟩, ⟨by repeat first | (with_reducible first | exact HB.out | apply ba | apply bn | apply bd | refine bs (by assumption) ?_) | exact HB.out⟩⟩
 clear H'
 try clear c1
 try clear p2
 try clear c3
 try clear c4
 try clear c6
 try clear c11
 try clear c12
 try clear hcz13_0
 try clear hcz13_1
 try clear hcz7_0
 try clear hcz7_1
 try clear hfz13_0
 try clear hfz13_1
 try clear hfz7_0
 try clear hfz7_1
 obtain ⟨x6_1, xz7000_1, uz7000, rfl, HA, HK1, HO_z7000, BKz1, BKz2, BKz6, HB⟩ := hrel
 cases gk with
 | zero => exact absurd HA.out (by simp [columbariumref14_fallen.l0])
 | succ k1 => ?_
 have H := HA.out
 clear HA
 simp only [columbariumref14_fallen.l0] at H
 by_cases c14 : x6_1 < (l0_1.length : Int)
 rotate_left
 ·rw [if_neg c14] at H
  have c14b0 : decide (x6_1 < (l0_1.length : Int)) = false := decide_eq_false c14
  clear c14
  simp only [Option.some.injEq, Prod.mk.injEq] at H
  obtain ⟨rfl, rfl⟩ := H
  have hnb64 := NBz1_z2.out
  have hnc64 := NBz2_z1.out
  have hnb65 := NBz1_z6.out
  have hnc65 := NBz6_z1.out
  obtain ⟨hcz66_0, hcz66_1⟩ := bc2 BKz1
  obtain ⟨hfz66_0, hfz66_1⟩ := bf2 BKz1
  have hnb67 := NBz6_z2.out
  have hnc67 := NBz2_z6.out
  obtain ⟨hcz68_0, hcz68_1⟩ := bc2 BKz6
  obtain ⟨hfz68_0, hfz68_1⟩ := bf2 BKz6
  obtain ⟨Ao69, co69, eo69⟩ := Kd.R_slice HO_z7000.out
  subst eo69
  obtain ⟨hcz70_0, hcz70_1⟩ := bc2 BKz2
  obtain ⟨hfz70_0, hfz70_1⟩ := bf2 BKz2
  go_wp2
  refine bodyPost_ret (results_cell_row rfl _ _ gbz2 30 #[.slice Ao69 xz7000_1.length co69, .slice none 0 0] (0, 0) _ rfl (by (with_reducible repeat (first | refine blk_drewN ?_ _ | refine blk_drew ?_ | refine blk_alloc ?_ _)); apply bp2; exact pk BKz2) Try.underlying30 rfl (by kernel_rfl)) rfl ?_
  exact ⟨_, _, by first | rfl | (simp <;> rfl) | (simp [*] <;> rfl), by (with_reducible repeat first | apply ra | apply rn | apply rd); exact Kd.R_mono (rf2 (Kd.R_types HO_z7000.out BKz2.out (by decide)) (fun _ hk => hk.2)) (fun _ hk => trivial), by exact Kd.R_nil _ _ _ _ _, by repeat first | (with_reducible first | exact HB.out | apply ba | apply bn | apply bd | refine bs (by assumption) ?_) | exact HB.out⟩
 rw [if_pos c14] at H
 have c14b0 : decide (x6_1 < (l0_1.length : Int)) = true := decide_eq_true c14
 clear c14
 by_cases c15 : 0 ≤ x6_1
 rotate_left
 ·rw [if_neg c15] at H
  exact absurd H (by simp)
 rw [if_pos c15] at H
 have c15b0 : decide (0 ≤ x6_1) = true := decide_eq_true c15
 clear c15
 by_cases c16 : x6_1 < (l1.length : Int)
 rotate_left
 ·rw [if_neg c16] at H
  have c16b0 : decide (x6_1 < (l1.length : Int)) = false := decide_eq_false c16
  clear c16
  by_cases c42 : 0 ≤ 0
  rotate_left
  ·rw [if_neg c42] at H
   exact absurd H (by simp)
  rw [if_pos c42] at H
  have c42b0 := eq_true c42
  have c42b1 : decide (0 ≤ 0) = true := decide_eq_true c42
  clear c42
  by_cases c43 : 0 ≤ (((rd_T24 l0_1 x6_1).f2).size : Int)
  rotate_left
  ·rw [if_neg c43] at H
   exact absurd H (by simp)
  rw [if_pos c43] at H
  have c43b0 := eq_true c43
  have c43b1 : decide (0 ≤ (((rd_T24 l0_1 x6_1).f2).size : Int)) = true := decide_eq_true c43
  clear c43
  obtain ⟨sx44, hsx44⟩ : ∃ s_ : ByteArray, (((rd_T24 l0_1 x6_1).f2).extract 0 0) = s_ := ⟨_, rfl⟩
  replace H : (if 0 ≤ ((rd_T24 l0_1 x6_1).f1) then (if ((rd_T24 l0_1 x6_1).f1) < (xz7000_1.length : Int) then (if 0 ≤ ((rdOf ByteArray.empty xz7000_1 ((rd_T24 l0_1 x6_1).f1)).size : Int) then (if (sx44).size + ((rdOf ByteArray.empty xz7000_1 ((rd_T24 l0_1 x6_1).f1)).extract 0 (rdOf ByteArray.empty xz7000_1 ((rd_T24 l0_1 x6_1).f1)).size).size ≤ 9223372036854775807 then (columbariumref14_fallen.l0 k1 l1 (wrap64 (x6_1 + 1)) l0_0 l0_1 (xz7000_1.set (((rd_T24 l0_1 x6_1).f1) : Int).toNat ((sx44) ++ ((rdOf ByteArray.empty xz7000_1 ((rd_T24 l0_1 x6_1).f1)).extract 0 (rdOf ByteArray.empty xz7000_1 ((rd_T24 l0_1 x6_1).f1)).size)))) else (none)) else (none)) else (none)) else (none)) = some (r1, r2) := by first | (rw [hsx44] at H; exact H) | (simp only [hsx44] at H ⊢; exact H) | exact H
  by_cases c45 : 0 ≤ ((rd_T24 l0_1 x6_1).f1)
  rotate_left
  ·rw [if_neg c45] at H
   exact absurd H (by simp)
  rw [if_pos c45] at H
  have c45b0 : decide (0 ≤ ((rd_T24 l0_1 x6_1).f1)) = true := decide_eq_true c45
  clear c45
  by_cases c46 : ((rd_T24 l0_1 x6_1).f1) < (xz7000_1.length : Int)
  rotate_left
  ·rw [if_neg c46] at H
   exact absurd H (by simp)
  rw [if_pos c46] at H
  have c46b0 : decide (((rd_T24 l0_1 x6_1).f1) < (xz7000_1.length : Int)) = true := decide_eq_true c46
  clear c46
  by_cases c47 : 0 ≤ ((rdOf ByteArray.empty xz7000_1 ((rd_T24 l0_1 x6_1).f1)).size : Int)
  rotate_left
  ·rw [if_neg c47] at H
   exact absurd H (by simp)
  rw [if_pos c47] at H
  have c47b0 := eq_true c47
  have c47b1 : decide (0 ≤ ((rdOf ByteArray.empty xz7000_1 ((rd_T24 l0_1 x6_1).f1)).size : Int)) = true := decide_eq_true c47
  clear c47
  obtain ⟨sx48, hsx48⟩ : ∃ s_ : ByteArray, ((rdOf ByteArray.empty xz7000_1 ((rd_T24 l0_1 x6_1).f1)).extract 0 (rdOf ByteArray.empty xz7000_1 ((rd_T24 l0_1 x6_1).f1)).size) = s_ := ⟨_, rfl⟩
  replace H : (if (sx44).size + (sx48).size ≤ 9223372036854775807 then (columbariumref14_fallen.l0 k1 l1 (wrap64 (x6_1 + 1)) l0_0 l0_1 (xz7000_1.set (((rd_T24 l0_1 x6_1).f1) : Int).toNat ((sx44) ++ (sx48)))) else (none)) = some (r1, r2) := by first | (rw [hsx48] at H; exact H) | (simp only [hsx48] at H ⊢; exact H) | exact H
  by_cases c49 : (sx44).size + (sx48).size ≤ 9223372036854775807
  rotate_left
  ·rw [if_neg c49] at H
   exact absurd H (by simp)
  rw [if_pos c49] at H
  have c49b0 := eq_true c49
  have c49b1 : decide ((sx44).size + (sx48).size ≤ 9223372036854775807) = true := decide_eq_true c49
  try have c49b2 : (9223372036854775807 < (sx44).size + (sx48).size) = False := eq_false (Nat.not_lt.2 c49)
  obtain ⟨sx50, hsx50⟩ : ∃ s_ : ByteArray, ((sx44) ++ (sx48)) = s_ := ⟨_, rfl⟩
  replace H : (columbariumref14_fallen.l0 k1 l1 (wrap64 (x6_1 + 1)) l0_0 l0_1 (xz7000_1.set (((rd_T24 l0_1 x6_1).f1) : Int).toNat (sx50))) = some (r1, r2) := by first | (rw [hsx50] at H; exact H) | (simp only [hsx50] at H ⊢; exact H) | exact H
  have hE_ : sx50 = sx48 := by rw [← hsx50, ← hsx44]; simp
  subst hE_
  have c49c : (9223372036854775807 < sx50.size) = False := eq_false (by omega)
  obtain ⟨yz13, hyz13⟩ : ∃ y_ : List ByteArray, y_ = (xz7000_1.set (((rd_T24 l0_1 x6_1).f1) : Int).toNat (sx50)) := ⟨_, rfl⟩
  replace H : (columbariumref14_fallen.l0 k1 l1 (wrap64 (x6_1 + 1)) l0_0 l0_1 yz13) = some (r1, r2) := by first | (rw [hyz13]; with_reducible exact H) | (have H2_ := (Option.bind_some _ _).symm.trans H; rw [hyz13]; with_reducible exact H2_) | (have H2_ := (Option.bind_some _ _).symm.trans H; with_reducible exact H2_) | with_reducible exact H | (rw [hyz13]; exact H) | exact H
  have Nyz13 := am hyz13
  clear hyz13
  have H' := am H
  clear H
  have hnb52 := NBz1_z2.out
  have hnc52 := NBz2_z1.out
  have hnb53 := NBz1_z6.out
  have hnc53 := NBz6_z1.out
  obtain ⟨hcz54_0, hcz54_1⟩ := bc2 BKz1
  obtain ⟨hfz54_0, hfz54_1⟩ := bf2 BKz1
  have pz7 : 0 ≤ (x6_1 : Int) := of_decide_eq_true (by first | (with_reducible assumption) | assumption)
  have qz7 : x6_1 < (l0_1.length : Int) := of_decide_eq_true (by first | (with_reducible assumption) | assumption)
  obtain ⟨adz7, ez7, hxz7_0, hxz7_1, hxz7_2⟩ := at_T24 HR0_1.out x6_1 pz7 qz7
  cases ez7
  replace hxz7_0 := (HB.out.cell (World.block_lt_of_cell? w _ hxz7_0)).trans hxz7_0
  replace hxz7_1 := (HB.out.cell (World.block_lt_of_cell? w _ hxz7_1)).trans hxz7_1
  replace hxz7_2 := (HB.out.cell (World.block_lt_of_cell? w _ hxz7_2)).trans hxz7_2
  replace pz7 := eq_true pz7
  replace qz7 := eq_true qz7
  try go_wp2_with (first | ((with_reducible refine gate_dst (N := 7) rfl ?_); refine box_event ?hg (N := 7) ?hd (cs := #[.bool false, .int .i64 0, .string (⟨#[]⟩ : ByteArray)]) (t := 24) ?hr ?_; (case hd => rfl); (case hg => rfl); (case hr => first | (go_simp; done) | (go_simp; rfl)); intro gbz8 hg w55 hbox hb; have n0_ := am (Kd.R_below (pr HO_z7000) hb); have n1_ := am (blk_below (pk BKz1) hb); have n2_ := am (blk_below (pk BKz2) hb); have n3_ := am (blk_below (pk BKz6) hb); have n4_ := am (below_step (by repeat first | (with_reducible first | exact HB.out | apply ba | apply bn | apply bd | refine bs (by assumption) ?_) | exact HB.out) hb); have n5_ := am (hbox); have n6_ := ge_ hg (by repeat first | (with_reducible first | exact HB.out | apply ba | apply bn | apply bd | refine bs (by assumption) ?_) | exact HB.out); have n7_ := ge_ hg (by repeat first | (with_reducible first | exact HB.out | apply ba | apply bn | apply bd | refine bs (by assumption) ?_) | exact HB.out); have n8_ := nl_ hg BKz1; have n9_ := ng_ hg BKz1; have n10_ := nl_ hg BKz2; have n11_ := ng_ hg BKz2; have n12_ := nl_ hg BKz6; have n13_ := ng_ hg BKz6; clear HO_z7000; clear BKz1; clear BKz2; clear BKz6; clear HB; have HO_z7000 := n0_; have BKz1 := n1_; have BKz2 := n2_; have BKz6 := n3_; have HB := n4_; have BKz8 := n5_; have GWz8 := n6_; have GEz8 := n7_; have NBz1_z8 := n8_; have NBz8_z1 := n9_; have NBz2_z8 := n10_; have NBz8_z2 := n11_; have NBz6_z8 := n12_; have NBz8_z6 := n13_; clear n0_ n1_ n2_ n3_ n4_ n5_ n6_ n7_ n8_ n9_ n10_ n11_ n12_ n13_; clear hb hbox hg; have hnb56 := NBz8_z1.out; have hnc56 := NBz1_z8.out; have hnb57 := NBz8_z2.out; have hnc57 := NBz2_z8.out; have hnb58 := NBz8_z6.out; have hnc58 := NBz6_z8.out; obtain ⟨hcz59_0, hcz59_1, hcz59_2⟩ := bc3 BKz8; obtain ⟨hfz59_0, hfz59_1, hfz59_2⟩ := bf3 BKz8))
  have n0_ : Aside0 (Kd.R Kd.string 9 (((w55.setCell ⟨gbz8, 0, none⟩ (.bool ((rd_T24 l0_1 x6_1).f0))).setCell ⟨gbz8, 1, none⟩ (.int .i64 ((rd_T24 l0_1 x6_1).f1))).setCell ⟨gbz8, 2, none⟩ (.string ((rd_T24 l0_1 x6_1).f2))) w.heap.size (fun _ => True) uz7000 xz7000_1) := ⟨by (with_reducible repeat first | apply ra | apply rn | apply rd); exact Kd.R_mono (rf3 (Kd.R_types HO_z7000.out BKz8.out (by decide)) (fun _ hk => hk.2)) (fun _ hk => trivial)⟩
  have n1_ : Aside0 ((((w55.setCell ⟨gbz8, 0, none⟩ (.bool ((rd_T24 l0_1 x6_1).f0))).setCell ⟨gbz8, 1, none⟩ (.int .i64 ((rd_T24 l0_1 x6_1).f1))).setCell ⟨gbz8, 2, none⟩ (.string ((rd_T24 l0_1 x6_1).f2))).heap[gbz1]? = some (.cells #[.slice A0_0 l0_0.length c0_0, .slice (some adz7) l0_1.length c0_1] 30 (0, 0))) := ⟨by (with_reducible repeat (first | refine blk_drewN ?_ _ | refine blk_drew ?_ | refine blk_alloc ?_ _)); refine blk_far ?_ NBz1_z8.out _; refine blk_far ?_ NBz1_z8.out _; refine blk_far ?_ NBz1_z8.out _; (with_reducible repeat (first | refine blk_drewN ?_ _ | refine blk_drew ?_ | refine blk_alloc ?_ _)); exact BKz1.out⟩
  have n2_ : Aside0 ((((w55.setCell ⟨gbz8, 0, none⟩ (.bool ((rd_T24 l0_1 x6_1).f0))).setCell ⟨gbz8, 1, none⟩ (.int .i64 ((rd_T24 l0_1 x6_1).f1))).setCell ⟨gbz8, 2, none⟩ (.string ((rd_T24 l0_1 x6_1).f2))).heap[gbz2]? = some (.cells #[.slice none 0 0, .slice none 0 0] 30 (0, 0))) := ⟨by (with_reducible repeat (first | refine blk_drewN ?_ _ | refine blk_drew ?_ | refine blk_alloc ?_ _)); refine blk_far ?_ NBz2_z8.out _; refine blk_far ?_ NBz2_z8.out _; refine blk_far ?_ NBz2_z8.out _; (with_reducible repeat (first | refine blk_drewN ?_ _ | refine blk_drew ?_ | refine blk_alloc ?_ _)); exact BKz2.out⟩
  have n3_ : Aside0 ((((w55.setCell ⟨gbz8, 0, none⟩ (.bool ((rd_T24 l0_1 x6_1).f0))).setCell ⟨gbz8, 1, none⟩ (.int .i64 ((rd_T24 l0_1 x6_1).f1))).setCell ⟨gbz8, 2, none⟩ (.string ((rd_T24 l0_1 x6_1).f2))).heap[gbz6]? = some (.cells #[uz7000, .slice none 0 0] 30 (0, 0))) := ⟨by (with_reducible repeat (first | refine blk_drewN ?_ _ | refine blk_drew ?_ | refine blk_alloc ?_ _)); refine blk_far ?_ NBz6_z8.out _; refine blk_far ?_ NBz6_z8.out _; refine blk_far ?_ NBz6_z8.out _; (with_reducible repeat (first | refine blk_drewN ?_ _ | refine blk_drew ?_ | refine blk_alloc ?_ _)); exact BKz6.out⟩
  have n4_ : Aside0 ((((w55.setCell ⟨gbz8, 0, none⟩ (.bool ((rd_T24 l0_1 x6_1).f0))).setCell ⟨gbz8, 1, none⟩ (.int .i64 ((rd_T24 l0_1 x6_1).f1))).setCell ⟨gbz8, 2, none⟩ (.string ((rd_T24 l0_1 x6_1).f2))).heap[gbz8]? = some (.cells #[.bool ((rd_T24 l0_1 x6_1).f0), .int .i64 ((rd_T24 l0_1 x6_1).f1), .string ((rd_T24 l0_1 x6_1).f2)] 24 (0, 0))) := ⟨by (with_reducible repeat (first | refine blk_drewN ?_ _ | refine blk_drew ?_ | refine blk_alloc ?_ _)); apply bp3; (with_reducible repeat (first | refine blk_drewN ?_ _ | refine blk_drew ?_ | refine blk_alloc ?_ _)); exact BKz8.out⟩
  have n5_ : Aside0 (Below w.heap.size w (((w55.setCell ⟨gbz8, 0, none⟩ (.bool ((rd_T24 l0_1 x6_1).f0))).setCell ⟨gbz8, 1, none⟩ (.int .i64 ((rd_T24 l0_1 x6_1).f1))).setCell ⟨gbz8, 2, none⟩ (.string ((rd_T24 l0_1 x6_1).f2)))) := ⟨by repeat first | (with_reducible first | exact HB.out | apply ba | apply bn | apply bd | refine bs (by assumption) ?_) | exact HB.out⟩
  (try clear HO_z7000); (try clear BKz1); (try clear BKz2); (try clear BKz6); (try clear BKz8); (try clear HB)
  generalize (((w55.setCell ⟨gbz8, 0, none⟩ (.bool ((rd_T24 l0_1 x6_1).f0))).setCell ⟨gbz8, 1, none⟩ (.int .i64 ((rd_T24 l0_1 x6_1).f1))).setCell ⟨gbz8, 2, none⟩ (.string ((rd_T24 l0_1 x6_1).f2))) = w60 at n0_ n1_ n2_ n3_ n4_ n5_ ⊢
  have HO_z7000 := n0_; have BKz1 := n1_; have BKz2 := n2_; have BKz6 := n3_; have BKz8 := n4_; have HB := n5_; clear n0_ n1_ n2_ n3_ n4_ n5_
  have n0_ := am (Kd.R_drew HO_z7000.out)
  have n1_ := am (blk_drew BKz1.out)
  have n2_ := am (blk_drew BKz2.out)
  have n3_ := am (blk_drew BKz6.out)
  have n4_ := am (blk_drew BKz8.out)
  have n5_ := am (below_drew1 HB.out)
  clear HO_z7000 BKz1 BKz2 BKz6 BKz8 HB; have HO_z7000 := n0_; have BKz1 := n1_; have BKz2 := n2_; have BKz6 := n3_; have BKz8 := n4_; have HB := n5_; clear n0_ n1_ n2_ n3_ n4_ n5_
  obtain ⟨Ao62, co62, eo62⟩ := Kd.R_slice HO_z7000.out
  (first | subst eo62 | (injection eo62 with f1_ f2_ f3_; have f4_ := f1_.symm; have f5_ := f3_.symm; clear f1_ f2_ f3_; subst f4_; subst f5_))
  have pz12 : 0 ≤ (((rd_T24 l0_1 x6_1).f1) : Int) := of_decide_eq_true (by first | (with_reducible assumption) | assumption)
  have qz12 : ((rd_T24 l0_1 x6_1).f1) < (xz7000_1.length : Int) := of_decide_eq_true (by first | (with_reducible assumption) | assumption)
  obtain ⟨adz12, ez12, hxz12_0⟩ := Kd.at_string (Kd.R_reads' HO_z7000.out).2.2 ((rd_T24 l0_1 x6_1).f1) pz12 qz12
  cases ez12
  replace pz12 := eq_true pz12
  replace qz12 := eq_true qz12
  have p51 : 0 ≤ (((rd_T24 l0_1 x6_1).f1) : Int) := of_decide_eq_true (by first | (with_reducible assumption) | assumption)
  have q51 : (((rd_T24 l0_1 x6_1).f1) : Int) < ((xz7000_1.length : Int) : Int) := of_decide_eq_true (by first | (with_reducible assumption) | assumption)
  obtain ⟨go51, co51, eo51, gb51, gl51, cl51, HG51⟩ := Kd.R_form HO_z7000.out (by omega)
  (first | cases eo51 | (injection eo51 with ea_ en_ ec_; (first | subst ea_ | (injection ea_ with ea_; subst ea_)); subst ec_; clear en_))
  have GB51 := Aside0.mk gb51
  have GG51 := am HG51
  clear gb51 gl51 HG51
  (first | simp only [add_plain] at hxz12_0 | skip)
  obtain ⟨hx51_0, hf51_0⟩ := Kd.R_celln (⟨#[]⟩ : ByteArray) HO_z7000.out (((rd_T24 l0_1 x6_1).f1) : Int) p51 q51
  replace p51 := eq_true p51
  replace q51 := eq_true q51
  have HP63 := Kd.R_putn HO_z7000.out (((rd_T24 l0_1 x6_1).f1) : Int) sx50
  rw [← Nyz13.out] at HP63
  have HQ63 := am HP63
  clear HP63
  refine start_ (n := 19) (S := fun w' => w'.cell? ⟨gbz6, 0, none⟩ = some (.slice (some ⟨go51, 0, none⟩) xz7000_1.length co62) ∧ w'.cell? ⟨gbz6, 1, none⟩ = some (.slice none 0 0) ∧ w'.cell? ⟨gbz8, 0, none⟩ = some (.bool ((rd_T24 l0_1 x6_1).f0)) ∧ w'.cell? ⟨gbz8, 1, none⟩ = some (.int .i64 ((rd_T24 l0_1 x6_1).f1)) ∧ w'.cell? ⟨gbz8, 2, none⟩ = some (.string ((rd_T24 l0_1 x6_1).f2)) ∧ w'.cell? ⟨go51, (((rd_T24 l0_1 x6_1).f1)).toNat, none⟩ = some (.string (rdOf ByteArray.empty xz7000_1 ((rd_T24 l0_1 x6_1).f1)))) (ds := [18]) #[false, false, false, false, false, false, false, false, false, false, false, false, false, false, false, false, false, false, false] (by kernel_rfl) rfl rfl ⟨(blk_cell BKz6.out 0).trans rfl, (blk_cell BKz6.out 1).trans rfl, (blk_cell BKz8.out 0).trans rfl, (blk_cell BKz8.out 1).trans rfl, (blk_cell BKz8.out 2).trans rfl, hxz12_0⟩ (fun hHeld => ?_); refine with_tabW columbariumref14_fallen.tab9 columbariumref14_fallen.bits9 (fun HT_ HW_ => ?_)
  generalize w60.drew = w61 at HO_z7000 BKz1 BKz2 BKz6 BKz8 HB GG51 HQ63 hf51_0 hxz12_0 hx51_0 hHeld ⊢
  refine pu_ 0 (some 35) HT_ rfl rfl (.inl ⟨by rfl, by intro w'; go_simp; with_reducible rfl⟩) (by simp only [Act.put, sa_, s0_, s1_, i64_w, i32_w]; rfl) ?_
  refine pu_ 2 (some 37) HT_ rfl rfl (.inl ⟨by rfl, by intro w'; go_simp; with_reducible rfl⟩) (by simp only [Act.put, sa_, s0_, s1_, i64_w, i32_w]; rfl) ?_
  refine pu_ 4 (some 39) HT_ rfl rfl (.inl ⟨by rfl, by intro w'; go_simp; with_reducible rfl⟩) (by simp only [Act.put, sa_, s0_, s1_, i64_w, i32_w]; rfl) ?_
  refine pu_ 6 (some 41) HT_ rfl rfl (.inl ⟨by rfl, by intro w'; go_simp; with_reducible rfl⟩) (by simp only [Act.put, sa_, s0_, s1_, i64_w, i32_w]; rfl) ?_
  refine pu_ 8 (some 43) HT_ rfl rfl (.inl ⟨by rfl, by intro w'; go_simp; with_reducible rfl⟩) (by simp only [Act.put, sa_, s0_, s1_, i64_w, i32_w]; rfl) ?_
  refine pu_ 10 (some 45) HT_ rfl rfl (.inl ⟨by rfl, by intro w'; go_simp; with_reducible rfl⟩) (by simp only [Act.put, sa_, s0_, s1_, i64_w, i32_w]; rfl) ?_
  refine pu_ 14 (some 49) HT_ rfl rfl (.inl ⟨by rfl, by intro w'; go_simp; with_reducible rfl⟩) (by simp only [Act.put, sa_, s0_, s1_, i64_w, i32_w]; rfl) ?_
  refine tk_ 1 (some 36) HT_ HW_ rfl rfl (.inl ⟨by rfl, by rintro w' ⟨s0, s1, s2, s3, s4, s5⟩; go_simp; with_reducible rfl⟩) hHeld (by simp only [Act.put, sa_, s0_, s1_, i64_w, i32_w]; rfl) ?_
  refine tk_ 3 (some 38) HT_ HW_ rfl rfl (.inl ⟨by rfl, by rintro w' ⟨s0, s1, s2, s3, s4, s5⟩; go_simp; with_reducible rfl⟩) hHeld (by simp only [Act.put, sa_, s0_, s1_, i64_w, i32_w]; rfl) ?_
  refine tk_ 5 (some 40) HT_ HW_ rfl rfl (.inl ⟨by rfl, by rintro w' ⟨s0, s1, s2, s3, s4, s5⟩; go_simp; with_reducible rfl⟩) hHeld (by simp only [Act.put, sa_, s0_, s1_, i64_w, i32_w]; rfl) ?_
  refine pu_ 7 (some 42) HT_ rfl rfl (.inl ⟨by rfl, by intro w'; go_simp; with_reducible rfl⟩) (by simp only [Act.put, sa_, s0_, s1_, i64_w, i32_w]; rfl) ?_
  refine tk_ 9 (some 44) HT_ HW_ rfl rfl (.inl ⟨by rfl, by rintro w' ⟨s0, s1, s2, s3, s4, s5⟩; go_simp; with_reducible rfl⟩) hHeld (by simp only [Act.put, sa_, s0_, s1_, i64_w, i32_w]; rfl) ?_
  refine tk_ 11 (some 46) HT_ HW_ rfl rfl (.inl ⟨by rfl, by rintro w' ⟨s0, s1, s2, s3, s4, s5⟩; go_simp; with_reducible rfl⟩) hHeld (by simp only [Act.put, sa_, s0_, s1_, i64_w, i32_w]; rfl) ?_
  refine pu_ 12 (some 47) HT_ rfl rfl (.inl ⟨by rfl, by intro w'; go_simp; with_reducible rfl⟩) (by simp only [Act.put, sa_, s0_, s1_, i64_w, i32_w]; rfl) ?_
  refine tk_ 13 (some 48) HT_ HW_ rfl rfl (.inl ⟨by rfl, by rintro w' ⟨s0, s1, s2, s3, s4, s5⟩; go_simp; with_reducible rfl⟩) hHeld (by simp only [Act.put, sa_, s0_, s1_, i64_w, i32_w]; rfl) ?_
  refine pu_ 15 (some 50) HT_ rfl rfl (.inl ⟨by rfl, by intro w'; go_simp; with_reducible rfl⟩) (by simp only [Act.put, sa_, s0_, s1_, i64_w, i32_w]; rfl) ?_
  refine pu_ 16 (some 51) HT_ rfl rfl (.inl ⟨by rfl, by intro w'; go_simp; with_reducible rfl⟩) (by simp only [Act.put, sa_, s0_, s1_, i64_w, i32_w]; rfl) ?_
  refine pu_ 17 (some 52) HT_ rfl rfl (.inl ⟨by rfl, by intro w'; go_simp; with_reducible rfl⟩) (by simp only [Act.put, sa_, s0_, s1_, i64_w, i32_w]; rfl) ?_
  refine la_ 18 none HT_ rfl rfl (fun K hK => ?_)
  refine skip_ (by rfl) rfl (by go_simp; rfl) ?_
  refine hK.out _ _ ?_
  clear hK K
  refine done_ (done_of HT_.out (by kernel_rfl)) ?_
  try go_wp2
  go_roundg k1
  case measure => have := HK1.out; omega
  case rel => exact ⟨(wrap64 (x6_1 + 1)), (yz13), (.slice (some ⟨go51, 0, none⟩) xz7000_1.length co62), (by first | rfl | (simp; done) | (simp [*]; done)), H', ⟨by have := HK1.out; omega⟩, ⟨by (with_reducible repeat first | apply ra | apply rn | apply rd); exact HQ63.out⟩, ⟨by (with_reducible repeat (first | refine blk_drewN ?_ _ | refine blk_drew ?_ | refine blk_alloc ?_ _)); refine blk_far ?_ (by have h_ := Kd.R_ne HO_z7000.out BKz1.out (by decide); intro e_; exact h_ (by rw [e_]; rfl)) _; (with_reducible repeat (first | refine blk_drewN ?_ _ | refine blk_drew ?_ | refine blk_alloc ?_ _)); exact BKz1.out⟩, ⟨by (with_reducible repeat (first | refine blk_drewN ?_ _ | refine blk_drew ?_ | refine blk_alloc ?_ _)); refine blk_far ?_ (by have h_ := Kd.R_ne HO_z7000.out BKz2.out (by decide); intro e_; exact h_ (by rw [e_]; rfl)) _; (with_reducible repeat (first | refine blk_drewN ?_ _ | refine blk_drew ?_ | refine blk_alloc ?_ _)); exact BKz2.out⟩, ⟨by (with_reducible repeat (first | refine blk_drewN ?_ _ | refine blk_drew ?_ | refine blk_alloc ?_ _)); refine blk_far ?_ (by have h_ := Kd.R_ne HO_z7000.out BKz6.out (by decide); intro e_; exact h_ (by rw [e_]; rfl)) _; (with_reducible repeat (first | refine blk_drewN ?_ _ | refine blk_drew ?_ | refine blk_alloc ?_ _)); exact BKz6.out⟩, ⟨by repeat (first | (with_reducible first | exact HB.out | apply below_alloc | apply pw_below_drewN | apply below_drew1 | refine below_set ?_ GB51.out | refine below_set ?_ GEz1.out | refine below_set ?_ GEz2.out | refine below_set ?_ GEz6.out | refine below_set ?_ GEz8.out) | exact HB.out)⟩⟩
 rw [if_pos c16] at H
 have c16b0 : decide (x6_1 < (l1.length : Int)) = true := decide_eq_true c16
 clear c16
 obtain ⟨ji17, hji17⟩ : ∃ j_ : Int, (mn (rd l1 x6_1) 64) = j_ := ⟨_, rfl⟩
 replace H : (if 0 ≤ (mx 0 (ji17)) then (if (mx 0 (ji17)) ≤ (((rd_T24 l0_1 x6_1).f2).size : Int) then (if 0 ≤ ((rd_T24 l0_1 x6_1).f1) then (if ((rd_T24 l0_1 x6_1).f1) < (xz7000_1.length : Int) then (if (mx 0 (ji17)) ≤ ((rdOf ByteArray.empty xz7000_1 ((rd_T24 l0_1 x6_1).f1)).size : Int) then (if (((rd_T24 l0_1 x6_1).f2).extract 0 ((mx 0 (ji17)) : Int).toNat).size + ((rdOf ByteArray.empty xz7000_1 ((rd_T24 l0_1 x6_1).f1)).extract ((mx 0 (ji17)) : Int).toNat (rdOf ByteArray.empty xz7000_1 ((rd_T24 l0_1 x6_1).f1)).size).size ≤ 9223372036854775807 then (columbariumref14_fallen.l0 k1 l1 (wrap64 (x6_1 + 1)) l0_0 l0_1 (xz7000_1.set (((rd_T24 l0_1 x6_1).f1) : Int).toNat ((((rd_T24 l0_1 x6_1).f2).extract 0 ((mx 0 (ji17)) : Int).toNat) ++ ((rdOf ByteArray.empty xz7000_1 ((rd_T24 l0_1 x6_1).f1)).extract ((mx 0 (ji17)) : Int).toNat (rdOf ByteArray.empty xz7000_1 ((rd_T24 l0_1 x6_1).f1)).size)))) else (none)) else (none)) else (none)) else (none)) else (none)) else (none)) = some (r1, r2) := by first | (rw [hji17] at H; exact H) | (simp only [hji17] at H ⊢; exact H)
 have hji17_ : (if 64 < (rd l1 x6_1) then 64 else (rd l1 x6_1)) = ji17 := hji17
 obtain ⟨ji18, hji18⟩ : ∃ j_ : Int, (mx 0 (ji17)) = j_ := ⟨_, rfl⟩
 replace H : (if 0 ≤ (ji18) then (if (ji18) ≤ (((rd_T24 l0_1 x6_1).f2).size : Int) then (if 0 ≤ ((rd_T24 l0_1 x6_1).f1) then (if ((rd_T24 l0_1 x6_1).f1) < (xz7000_1.length : Int) then (if (ji18) ≤ ((rdOf ByteArray.empty xz7000_1 ((rd_T24 l0_1 x6_1).f1)).size : Int) then (if (((rd_T24 l0_1 x6_1).f2).extract 0 ((ji18) : Int).toNat).size + ((rdOf ByteArray.empty xz7000_1 ((rd_T24 l0_1 x6_1).f1)).extract ((ji18) : Int).toNat (rdOf ByteArray.empty xz7000_1 ((rd_T24 l0_1 x6_1).f1)).size).size ≤ 9223372036854775807 then (columbariumref14_fallen.l0 k1 l1 (wrap64 (x6_1 + 1)) l0_0 l0_1 (xz7000_1.set (((rd_T24 l0_1 x6_1).f1) : Int).toNat ((((rd_T24 l0_1 x6_1).f2).extract 0 ((ji18) : Int).toNat) ++ ((rdOf ByteArray.empty xz7000_1 ((rd_T24 l0_1 x6_1).f1)).extract ((ji18) : Int).toNat (rdOf ByteArray.empty xz7000_1 ((rd_T24 l0_1 x6_1).f1)).size)))) else (none)) else (none)) else (none)) else (none)) else (none)) else (none)) = some (r1, r2) := by first | (rw [hji18] at H; exact H) | (simp only [hji18] at H ⊢; exact H)
 have hji18_ : (if 0 < (ji17) then (ji17) else 0) = ji18 := hji18
 by_cases c19 : 0 ≤ (ji18)
 rotate_left
 ·rw [if_neg c19] at H
  exact absurd H (by simp)
 rw [if_pos c19] at H
 have c19b0 := eq_true c19
 have c19b1 : decide (0 ≤ (ji18)) = true := decide_eq_true c19
 clear c19
 by_cases c20 : (ji18) ≤ (((rd_T24 l0_1 x6_1).f2).size : Int)
 rotate_left
 ·rw [if_neg c20] at H
  exact absurd H (by simp)
 rw [if_pos c20] at H
 have c20b0 := eq_true c20
 have c20b1 : decide ((ji18) ≤ (((rd_T24 l0_1 x6_1).f2).size : Int)) = true := decide_eq_true c20
 clear c20
 obtain ⟨sx21, hsx21⟩ : ∃ s_ : ByteArray, (((rd_T24 l0_1 x6_1).f2).extract 0 ((ji18) : Int).toNat) = s_ := ⟨_, rfl⟩
 replace H : (if 0 ≤ ((rd_T24 l0_1 x6_1).f1) then (if ((rd_T24 l0_1 x6_1).f1) < (xz7000_1.length : Int) then (if (ji18) ≤ ((rdOf ByteArray.empty xz7000_1 ((rd_T24 l0_1 x6_1).f1)).size : Int) then (if (sx21).size + ((rdOf ByteArray.empty xz7000_1 ((rd_T24 l0_1 x6_1).f1)).extract ((ji18) : Int).toNat (rdOf ByteArray.empty xz7000_1 ((rd_T24 l0_1 x6_1).f1)).size).size ≤ 9223372036854775807 then (columbariumref14_fallen.l0 k1 l1 (wrap64 (x6_1 + 1)) l0_0 l0_1 (xz7000_1.set (((rd_T24 l0_1 x6_1).f1) : Int).toNat ((sx21) ++ ((rdOf ByteArray.empty xz7000_1 ((rd_T24 l0_1 x6_1).f1)).extract ((ji18) : Int).toNat (rdOf ByteArray.empty xz7000_1 ((rd_T24 l0_1 x6_1).f1)).size)))) else (none)) else (none)) else (none)) else (none)) = some (r1, r2) := by first | (rw [hsx21] at H; exact H) | (simp only [hsx21] at H ⊢; exact H) | exact H
 by_cases c22 : 0 ≤ ((rd_T24 l0_1 x6_1).f1)
 rotate_left
 ·rw [if_neg c22] at H
  exact absurd H (by simp)
 rw [if_pos c22] at H
 have c22b0 : decide (0 ≤ ((rd_T24 l0_1 x6_1).f1)) = true := decide_eq_true c22
 clear c22
 by_cases c23 : ((rd_T24 l0_1 x6_1).f1) < (xz7000_1.length : Int)
 rotate_left
 ·rw [if_neg c23] at H
  exact absurd H (by simp)
 rw [if_pos c23] at H
 have c23b0 : decide (((rd_T24 l0_1 x6_1).f1) < (xz7000_1.length : Int)) = true := decide_eq_true c23
 clear c23
 have c24b0 := eq_true (of_decide_eq_true (by first | (with_reducible assumption) | assumption) : 0 ≤ (ji18))
 by_cases c25 : (ji18) ≤ ((rdOf ByteArray.empty xz7000_1 ((rd_T24 l0_1 x6_1).f1)).size : Int)
 rotate_left
 ·rw [if_neg c25] at H
  exact absurd H (by simp)
 rw [if_pos c25] at H
 have c25b0 := eq_true c25
 have c25b1 : decide ((ji18) ≤ ((rdOf ByteArray.empty xz7000_1 ((rd_T24 l0_1 x6_1).f1)).size : Int)) = true := decide_eq_true c25
 clear c25
 obtain ⟨sx26, hsx26⟩ : ∃ s_ : ByteArray, ((rdOf ByteArray.empty xz7000_1 ((rd_T24 l0_1 x6_1).f1)).extract ((ji18) : Int).toNat (rdOf ByteArray.empty xz7000_1 ((rd_T24 l0_1 x6_1).f1)).size) = s_ := ⟨_, rfl⟩
 replace H : (if (sx21).size + (sx26).size ≤ 9223372036854775807 then (columbariumref14_fallen.l0 k1 l1 (wrap64 (x6_1 + 1)) l0_0 l0_1 (xz7000_1.set (((rd_T24 l0_1 x6_1).f1) : Int).toNat ((sx21) ++ (sx26)))) else (none)) = some (r1, r2) := by first | (rw [hsx26] at H; exact H) | (simp only [hsx26] at H ⊢; exact H) | exact H
 by_cases c27 : (sx21).size + (sx26).size ≤ 9223372036854775807
 rotate_left
 ·rw [if_neg c27] at H
  exact absurd H (by simp)
 rw [if_pos c27] at H
 have c27b0 := eq_true c27
 have c27b1 : decide ((sx21).size + (sx26).size ≤ 9223372036854775807) = true := decide_eq_true c27
 try have c27b2 : (9223372036854775807 < (sx21).size + (sx26).size) = False := eq_false (Nat.not_lt.2 c27)
 obtain ⟨sx28, hsx28⟩ : ∃ s_ : ByteArray, ((sx21) ++ (sx26)) = s_ := ⟨_, rfl⟩
 replace H : (columbariumref14_fallen.l0 k1 l1 (wrap64 (x6_1 + 1)) l0_0 l0_1 (xz7000_1.set (((rd_T24 l0_1 x6_1).f1) : Int).toNat (sx28))) = some (r1, r2) := by first | (rw [hsx28] at H; exact H) | (simp only [hsx28] at H ⊢; exact H) | exact H
 obtain ⟨yz11, hyz11⟩ : ∃ y_ : List ByteArray, y_ = (xz7000_1.set (((rd_T24 l0_1 x6_1).f1) : Int).toNat (sx28)) := ⟨_, rfl⟩
 replace H : (columbariumref14_fallen.l0 k1 l1 (wrap64 (x6_1 + 1)) l0_0 l0_1 yz11) = some (r1, r2) := by first | (rw [hyz11]; with_reducible exact H) | (have H2_ := (Option.bind_some _ _).symm.trans H; rw [hyz11]; with_reducible exact H2_) | (have H2_ := (Option.bind_some _ _).symm.trans H; with_reducible exact H2_) | with_reducible exact H | (rw [hyz11]; exact H) | exact H
 have Nyz11 := am hyz11
 clear hyz11
 have H' := am H
 clear H
 have hnb30 := NBz1_z2.out
 have hnc30 := NBz2_z1.out
 have hnb31 := NBz1_z6.out
 have hnc31 := NBz6_z1.out
 obtain ⟨hcz32_0, hcz32_1⟩ := bc2 BKz1
 obtain ⟨hfz32_0, hfz32_1⟩ := bf2 BKz1
 have pz7 : 0 ≤ (x6_1 : Int) := of_decide_eq_true (by first | (with_reducible assumption) | assumption)
 have qz7 : x6_1 < (l0_1.length : Int) := of_decide_eq_true (by first | (with_reducible assumption) | assumption)
 obtain ⟨adz7, ez7, hxz7_0, hxz7_1, hxz7_2⟩ := at_T24 HR0_1.out x6_1 pz7 qz7
 cases ez7
 replace hxz7_0 := (HB.out.cell (World.block_lt_of_cell? w _ hxz7_0)).trans hxz7_0
 replace hxz7_1 := (HB.out.cell (World.block_lt_of_cell? w _ hxz7_1)).trans hxz7_1
 replace hxz7_2 := (HB.out.cell (World.block_lt_of_cell? w _ hxz7_2)).trans hxz7_2
 replace pz7 := eq_true pz7
 replace qz7 := eq_true qz7
 try go_wp2_with (first | ((with_reducible refine gate_dst (N := 7) rfl ?_); refine box_event ?hg (N := 7) ?hd (cs := #[.bool false, .int .i64 0, .string (⟨#[]⟩ : ByteArray)]) (t := 24) ?hr ?_; (case hd => rfl); (case hg => rfl); (case hr => first | (go_simp; done) | (go_simp; rfl)); intro gbz8 hg w33 hbox hb; have n0_ := am (Kd.R_below (pr HO_z7000) hb); have n1_ := am (blk_below (pk BKz1) hb); have n2_ := am (blk_below (pk BKz2) hb); have n3_ := am (blk_below (pk BKz6) hb); have n4_ := am (below_step (by repeat first | (with_reducible first | exact HB.out | apply ba | apply bn | apply bd | refine bs (by assumption) ?_) | exact HB.out) hb); have n5_ := am (hbox); have n6_ := ge_ hg (by repeat first | (with_reducible first | exact HB.out | apply ba | apply bn | apply bd | refine bs (by assumption) ?_) | exact HB.out); have n7_ := ge_ hg (by repeat first | (with_reducible first | exact HB.out | apply ba | apply bn | apply bd | refine bs (by assumption) ?_) | exact HB.out); have n8_ := nl_ hg BKz1; have n9_ := ng_ hg BKz1; have n10_ := nl_ hg BKz2; have n11_ := ng_ hg BKz2; have n12_ := nl_ hg BKz6; have n13_ := ng_ hg BKz6; clear HO_z7000; clear BKz1; clear BKz2; clear BKz6; clear HB; have HO_z7000 := n0_; have BKz1 := n1_; have BKz2 := n2_; have BKz6 := n3_; have HB := n4_; have BKz8 := n5_; have GWz8 := n6_; have GEz8 := n7_; have NBz1_z8 := n8_; have NBz8_z1 := n9_; have NBz2_z8 := n10_; have NBz8_z2 := n11_; have NBz6_z8 := n12_; have NBz8_z6 := n13_; clear n0_ n1_ n2_ n3_ n4_ n5_ n6_ n7_ n8_ n9_ n10_ n11_ n12_ n13_; clear hb hbox hg; have hnb34 := NBz8_z1.out; have hnc34 := NBz1_z8.out; have hnb35 := NBz8_z2.out; have hnc35 := NBz2_z8.out; have hnb36 := NBz8_z6.out; have hnc36 := NBz6_z8.out; obtain ⟨hcz37_0, hcz37_1, hcz37_2⟩ := bc3 BKz8; obtain ⟨hfz37_0, hfz37_1, hfz37_2⟩ := bf3 BKz8; have pz9 : 0 ≤ (x6_1 : Int) := of_decide_eq_true (by first | (with_reducible assumption) | assumption); have qz9 : x6_1 < (l1.length : Int) := of_decide_eq_true (by first | (with_reducible assumption) | assumption); obtain ⟨adz9, ez9, hxz9_0⟩ := Kd.at_int HR1.out x6_1 pz9 qz9; cases ez9; have hnz9_0 : adz9.block ≠ gbz8 := Nat.ne_of_lt (Nat.lt_of_lt_of_le (by have := World.block_lt_of_cell? _ _ hxz9_0; first | rwa [add_block] at this | exact this) GWz8.out); have hnz9_1 : adz9.block ≠ gbz8 := Nat.ne_of_lt (Nat.lt_of_lt_of_le (by have := World.block_lt_of_cell? _ _ hxz9_0; first | rwa [add_block] at this | exact this) GWz8.out); have hnz9_2 : adz9.block ≠ gbz8 := Nat.ne_of_lt (Nat.lt_of_lt_of_le (by have := World.block_lt_of_cell? _ _ hxz9_0; first | rwa [add_block] at this | exact this) GWz8.out); replace hxz9_0 := (HB.out.cell (World.block_lt_of_cell? w _ hxz9_0)).trans hxz9_0; replace hxz9_0 := (cell_far (p := ⟨gbz8, 0, none⟩) (by first | (rw [add_block]; exact hnz9_0) | (show (Addr.add _ _).block ≠ _; rw [add_block]; exact hnz9_0) | exact hnz9_0) (.bool ((rd_T24 l0_1 x6_1).f0))).trans hxz9_0; replace hxz9_0 := (cell_far (p := ⟨gbz8, 1, none⟩) (by first | (rw [add_block]; exact hnz9_1) | (show (Addr.add _ _).block ≠ _; rw [add_block]; exact hnz9_1) | exact hnz9_1) (.int .i64 ((rd_T24 l0_1 x6_1).f1))).trans hxz9_0; replace hxz9_0 := (cell_far (p := ⟨gbz8, 2, none⟩) (by first | (rw [add_block]; exact hnz9_2) | (show (Addr.add _ _).block ≠ _; rw [add_block]; exact hnz9_2) | exact hnz9_2) (.string ((rd_T24 l0_1 x6_1).f2))).trans hxz9_0; clear hnz9_0; clear hnz9_1; clear hnz9_2; replace pz9 := eq_true pz9; replace qz9 := eq_true qz9))
 have n0_ : Aside0 (Kd.R Kd.string 9 (((w33.setCell ⟨gbz8, 0, none⟩ (.bool ((rd_T24 l0_1 x6_1).f0))).setCell ⟨gbz8, 1, none⟩ (.int .i64 ((rd_T24 l0_1 x6_1).f1))).setCell ⟨gbz8, 2, none⟩ (.string ((rd_T24 l0_1 x6_1).f2))) w.heap.size (fun _ => True) uz7000 xz7000_1) := ⟨by (with_reducible repeat first | apply ra | apply rn | apply rd); exact Kd.R_mono (rf3 (Kd.R_types HO_z7000.out BKz8.out (by decide)) (fun _ hk => hk.2)) (fun _ hk => trivial)⟩
 have n1_ : Aside0 ((((w33.setCell ⟨gbz8, 0, none⟩ (.bool ((rd_T24 l0_1 x6_1).f0))).setCell ⟨gbz8, 1, none⟩ (.int .i64 ((rd_T24 l0_1 x6_1).f1))).setCell ⟨gbz8, 2, none⟩ (.string ((rd_T24 l0_1 x6_1).f2))).heap[gbz1]? = some (.cells #[.slice A0_0 l0_0.length c0_0, .slice (some adz7) l0_1.length c0_1] 30 (0, 0))) := ⟨by (with_reducible repeat (first | refine blk_drewN ?_ _ | refine blk_drew ?_ | refine blk_alloc ?_ _)); refine blk_far ?_ NBz1_z8.out _; refine blk_far ?_ NBz1_z8.out _; refine blk_far ?_ NBz1_z8.out _; (with_reducible repeat (first | refine blk_drewN ?_ _ | refine blk_drew ?_ | refine blk_alloc ?_ _)); exact BKz1.out⟩
 have n2_ : Aside0 ((((w33.setCell ⟨gbz8, 0, none⟩ (.bool ((rd_T24 l0_1 x6_1).f0))).setCell ⟨gbz8, 1, none⟩ (.int .i64 ((rd_T24 l0_1 x6_1).f1))).setCell ⟨gbz8, 2, none⟩ (.string ((rd_T24 l0_1 x6_1).f2))).heap[gbz2]? = some (.cells #[.slice none 0 0, .slice none 0 0] 30 (0, 0))) := ⟨by (with_reducible repeat (first | refine blk_drewN ?_ _ | refine blk_drew ?_ | refine blk_alloc ?_ _)); refine blk_far ?_ NBz2_z8.out _; refine blk_far ?_ NBz2_z8.out _; refine blk_far ?_ NBz2_z8.out _; (with_reducible repeat (first | refine blk_drewN ?_ _ | refine blk_drew ?_ | refine blk_alloc ?_ _)); exact BKz2.out⟩
 have n3_ : Aside0 ((((w33.setCell ⟨gbz8, 0, none⟩ (.bool ((rd_T24 l0_1 x6_1).f0))).setCell ⟨gbz8, 1, none⟩ (.int .i64 ((rd_T24 l0_1 x6_1).f1))).setCell ⟨gbz8, 2, none⟩ (.string ((rd_T24 l0_1 x6_1).f2))).heap[gbz6]? = some (.cells #[uz7000, .slice none 0 0] 30 (0, 0))) := ⟨by (with_reducible repeat (first | refine blk_drewN ?_ _ | refine blk_drew ?_ | refine blk_alloc ?_ _)); refine blk_far ?_ NBz6_z8.out _; refine blk_far ?_ NBz6_z8.out _; refine blk_far ?_ NBz6_z8.out _; (with_reducible repeat (first | refine blk_drewN ?_ _ | refine blk_drew ?_ | refine blk_alloc ?_ _)); exact BKz6.out⟩
 have n4_ : Aside0 ((((w33.setCell ⟨gbz8, 0, none⟩ (.bool ((rd_T24 l0_1 x6_1).f0))).setCell ⟨gbz8, 1, none⟩ (.int .i64 ((rd_T24 l0_1 x6_1).f1))).setCell ⟨gbz8, 2, none⟩ (.string ((rd_T24 l0_1 x6_1).f2))).heap[gbz8]? = some (.cells #[.bool ((rd_T24 l0_1 x6_1).f0), .int .i64 ((rd_T24 l0_1 x6_1).f1), .string ((rd_T24 l0_1 x6_1).f2)] 24 (0, 0))) := ⟨by (with_reducible repeat (first | refine blk_drewN ?_ _ | refine blk_drew ?_ | refine blk_alloc ?_ _)); apply bp3; (with_reducible repeat (first | refine blk_drewN ?_ _ | refine blk_drew ?_ | refine blk_alloc ?_ _)); exact BKz8.out⟩
 have n5_ : Aside0 (Below w.heap.size w (((w33.setCell ⟨gbz8, 0, none⟩ (.bool ((rd_T24 l0_1 x6_1).f0))).setCell ⟨gbz8, 1, none⟩ (.int .i64 ((rd_T24 l0_1 x6_1).f1))).setCell ⟨gbz8, 2, none⟩ (.string ((rd_T24 l0_1 x6_1).f2)))) := ⟨by repeat first | (with_reducible first | exact HB.out | apply ba | apply bn | apply bd | refine bs (by assumption) ?_) | exact HB.out⟩
 (try clear HO_z7000); (try clear BKz1); (try clear BKz2); (try clear BKz6); (try clear BKz8); (try clear HB)
 generalize (((w33.setCell ⟨gbz8, 0, none⟩ (.bool ((rd_T24 l0_1 x6_1).f0))).setCell ⟨gbz8, 1, none⟩ (.int .i64 ((rd_T24 l0_1 x6_1).f1))).setCell ⟨gbz8, 2, none⟩ (.string ((rd_T24 l0_1 x6_1).f2))) = w38 at n0_ n1_ n2_ n3_ n4_ n5_ ⊢
 have HO_z7000 := n0_; have BKz1 := n1_; have BKz2 := n2_; have BKz6 := n3_; have BKz8 := n4_; have HB := n5_; clear n0_ n1_ n2_ n3_ n4_ n5_
 have n0_ := am (Kd.R_drew HO_z7000.out)
 have n1_ := am (blk_drew BKz1.out)
 have n2_ := am (blk_drew BKz2.out)
 have n3_ := am (blk_drew BKz6.out)
 have n4_ := am (blk_drew BKz8.out)
 have n5_ := am (below_drew1 HB.out)
 clear HO_z7000 BKz1 BKz2 BKz6 BKz8 HB; have HO_z7000 := n0_; have BKz1 := n1_; have BKz2 := n2_; have BKz6 := n3_; have BKz8 := n4_; have HB := n5_; clear n0_ n1_ n2_ n3_ n4_ n5_
 obtain ⟨Ao40, co40, eo40⟩ := Kd.R_slice HO_z7000.out
 (first | subst eo40 | (injection eo40 with f1_ f2_ f3_; have f4_ := f1_.symm; have f5_ := f3_.symm; clear f1_ f2_ f3_; subst f4_; subst f5_))
 have pz10 : 0 ≤ (((rd_T24 l0_1 x6_1).f1) : Int) := of_decide_eq_true (by first | (with_reducible assumption) | assumption)
 have qz10 : ((rd_T24 l0_1 x6_1).f1) < (xz7000_1.length : Int) := of_decide_eq_true (by first | (with_reducible assumption) | assumption)
 obtain ⟨adz10, ez10, hxz10_0⟩ := Kd.at_string (Kd.R_reads' HO_z7000.out).2.2 ((rd_T24 l0_1 x6_1).f1) pz10 qz10
 cases ez10
 replace pz10 := eq_true pz10
 replace qz10 := eq_true qz10
 have p29 : 0 ≤ (((rd_T24 l0_1 x6_1).f1) : Int) := of_decide_eq_true (by first | (with_reducible assumption) | assumption)
 have q29 : (((rd_T24 l0_1 x6_1).f1) : Int) < ((xz7000_1.length : Int) : Int) := of_decide_eq_true (by first | (with_reducible assumption) | assumption)
 obtain ⟨go29, co29, eo29, gb29, gl29, cl29, HG29⟩ := Kd.R_form HO_z7000.out (by omega)
 (first | cases eo29 | (injection eo29 with ea_ en_ ec_; (first | subst ea_ | (injection ea_ with ea_; subst ea_)); subst ec_; clear en_))
 have GB29 := Aside0.mk gb29
 have GG29 := am HG29
 clear gb29 gl29 HG29
 (first | simp only [add_plain] at hxz10_0 | skip)
 obtain ⟨hx29_0, hf29_0⟩ := Kd.R_celln (⟨#[]⟩ : ByteArray) HO_z7000.out (((rd_T24 l0_1 x6_1).f1) : Int) p29 q29
 replace p29 := eq_true p29
 replace q29 := eq_true q29
 have HP41 := Kd.R_putn HO_z7000.out (((rd_T24 l0_1 x6_1).f1) : Int) sx28
 rw [← Nyz11.out] at HP41
 have HQ41 := am HP41
 clear HP41
 refine start_ (n := 19) (S := fun w' => w'.cell? ⟨gbz6, 0, none⟩ = some (.slice (some ⟨go29, 0, none⟩) xz7000_1.length co40) ∧ w'.cell? ⟨gbz6, 1, none⟩ = some (.slice none 0 0) ∧ w'.cell? ⟨gbz8, 0, none⟩ = some (.bool ((rd_T24 l0_1 x6_1).f0)) ∧ w'.cell? ⟨gbz8, 1, none⟩ = some (.int .i64 ((rd_T24 l0_1 x6_1).f1)) ∧ w'.cell? ⟨gbz8, 2, none⟩ = some (.string ((rd_T24 l0_1 x6_1).f2)) ∧ w'.cell? ⟨go29, (((rd_T24 l0_1 x6_1).f1)).toNat, none⟩ = some (.string (rdOf ByteArray.empty xz7000_1 ((rd_T24 l0_1 x6_1).f1)))) (ds := [18]) #[false, false, false, false, false, false, false, false, false, false, false, false, false, false, false, false, false, false, false] (by kernel_rfl) rfl rfl ⟨(blk_cell BKz6.out 0).trans rfl, (blk_cell BKz6.out 1).trans rfl, (blk_cell BKz8.out 0).trans rfl, (blk_cell BKz8.out 1).trans rfl, (blk_cell BKz8.out 2).trans rfl, hxz10_0⟩ (fun hHeld => ?_); refine with_tabW columbariumref14_fallen.tab9 columbariumref14_fallen.bits9 (fun HT_ HW_ => ?_)
 generalize w38.drew = w39 at HO_z7000 BKz1 BKz2 BKz6 BKz8 HB GG29 HQ41 hf29_0 hx29_0 hxz10_0 hHeld ⊢
 refine pu_ 0 (some 35) HT_ rfl rfl (.inl ⟨by rfl, by intro w'; go_simp; with_reducible rfl⟩) (by simp only [Act.put, sa_, s0_, s1_, i64_w, i32_w]; rfl) ?_
 refine pu_ 2 (some 37) HT_ rfl rfl (.inl ⟨by rfl, by intro w'; go_simp; with_reducible rfl⟩) (by simp only [Act.put, sa_, s0_, s1_, i64_w, i32_w]; rfl) ?_
 refine pu_ 4 (some 39) HT_ rfl rfl (.inl ⟨by rfl, by intro w'; go_simp; with_reducible rfl⟩) (by simp only [Act.put, sa_, s0_, s1_, i64_w, i32_w]; rfl) ?_
 refine pu_ 6 (some 41) HT_ rfl rfl (.inl ⟨by rfl, by intro w'; go_simp; with_reducible rfl⟩) (by simp only [Act.put, sa_, s0_, s1_, i64_w, i32_w]; rfl) ?_
 refine pu_ 8 (some 43) HT_ rfl rfl (.inl ⟨by rfl, by intro w'; go_simp; with_reducible rfl⟩) (by simp only [Act.put, sa_, s0_, s1_, i64_w, i32_w]; rfl) ?_
 refine pu_ 10 (some 45) HT_ rfl rfl (.inl ⟨by rfl, by intro w'; go_simp; with_reducible rfl⟩) (by simp only [Act.put, sa_, s0_, s1_, i64_w, i32_w]; rfl) ?_
 refine pu_ 14 (some 49) HT_ rfl rfl (.inl ⟨by rfl, by intro w'; go_simp; with_reducible rfl⟩) (by simp only [Act.put, sa_, s0_, s1_, i64_w, i32_w]; rfl) ?_
 refine tk_ 1 (some 36) HT_ HW_ rfl rfl (.inl ⟨by rfl, by rintro w' ⟨s0, s1, s2, s3, s4, s5⟩; go_simp; with_reducible rfl⟩) hHeld (by simp only [Act.put, sa_, s0_, s1_, i64_w, i32_w]; rfl) ?_
 refine tk_ 3 (some 38) HT_ HW_ rfl rfl (.inl ⟨by rfl, by rintro w' ⟨s0, s1, s2, s3, s4, s5⟩; go_simp; with_reducible rfl⟩) hHeld (by simp only [Act.put, sa_, s0_, s1_, i64_w, i32_w]; rfl) ?_
 refine tk_ 5 (some 40) HT_ HW_ rfl rfl (.inl ⟨by rfl, by rintro w' ⟨s0, s1, s2, s3, s4, s5⟩; go_simp; with_reducible rfl⟩) hHeld (by simp only [Act.put, sa_, s0_, s1_, i64_w, i32_w]; rfl) ?_
 refine pu_ 7 (some 42) HT_ rfl rfl (.inl ⟨by rfl, by intro w'; go_simp; with_reducible rfl⟩) (by simp only [Act.put, sa_, s0_, s1_, i64_w, i32_w]; rfl) ?_
 refine tk_ 9 (some 44) HT_ HW_ rfl rfl (.inl ⟨by rfl, by rintro w' ⟨s0, s1, s2, s3, s4, s5⟩; go_simp; with_reducible rfl⟩) hHeld (by simp only [Act.put, sa_, s0_, s1_, i64_w, i32_w]; rfl) ?_
 refine tk_ 11 (some 46) HT_ HW_ rfl rfl (.inl ⟨by rfl, by rintro w' ⟨s0, s1, s2, s3, s4, s5⟩; go_simp; with_reducible rfl⟩) hHeld (by simp only [Act.put, sa_, s0_, s1_, i64_w, i32_w]; rfl) ?_
 refine pu_ 12 (some 47) HT_ rfl rfl (.inl ⟨by rfl, by intro w'; go_simp; with_reducible rfl⟩) (by simp only [Act.put, sa_, s0_, s1_, i64_w, i32_w]; rfl) ?_
 refine tk_ 13 (some 48) HT_ HW_ rfl rfl (.inl ⟨by rfl, by rintro w' ⟨s0, s1, s2, s3, s4, s5⟩; go_simp; with_reducible rfl⟩) hHeld (by simp only [Act.put, sa_, s0_, s1_, i64_w, i32_w]; rfl) ?_
 refine pu_ 15 (some 50) HT_ rfl rfl (.inl ⟨by rfl, by intro w'; go_simp; with_reducible rfl⟩) (by simp only [Act.put, sa_, s0_, s1_, i64_w, i32_w]; rfl) ?_
 refine pu_ 16 (some 51) HT_ rfl rfl (.inl ⟨by rfl, by intro w'; go_simp; with_reducible rfl⟩) (by simp only [Act.put, sa_, s0_, s1_, i64_w, i32_w]; rfl) ?_
 refine pu_ 17 (some 52) HT_ rfl rfl (.inl ⟨by rfl, by intro w'; go_simp; with_reducible rfl⟩) (by simp only [Act.put, sa_, s0_, s1_, i64_w, i32_w]; rfl) ?_
 refine la_ 18 none HT_ rfl rfl (fun K hK => ?_)
 refine skip_ (by rfl) rfl (by go_simp; rfl) ?_
 refine hK.out _ _ ?_
 clear hK K
 refine done_ (done_of HT_.out (by kernel_rfl)) ?_
 try go_wp2
 go_roundg k1
 case measure => have := HK1.out; omega
 case rel => exact ⟨(wrap64 (x6_1 + 1)), (yz11), (.slice (some ⟨go29, 0, none⟩) xz7000_1.length co40), (by first | rfl | (simp; done) | (simp [*]; done)), H', ⟨by have := HK1.out; omega⟩, ⟨by (with_reducible repeat first | apply ra | apply rn | apply rd); exact HQ41.out⟩, ⟨by (with_reducible repeat (first | refine blk_drewN ?_ _ | refine blk_drew ?_ | refine blk_alloc ?_ _)); refine blk_far ?_ (by have h_ := Kd.R_ne HO_z7000.out BKz1.out (by decide); intro e_; exact h_ (by rw [e_]; rfl)) _; (with_reducible repeat (first | refine blk_drewN ?_ _ | refine blk_drew ?_ | refine blk_alloc ?_ _)); exact BKz1.out⟩, ⟨by (with_reducible repeat (first | refine blk_drewN ?_ _ | refine blk_drew ?_ | refine blk_alloc ?_ _)); refine blk_far ?_ (by have h_ := Kd.R_ne HO_z7000.out BKz2.out (by decide); intro e_; exact h_ (by rw [e_]; rfl)) _; (with_reducible repeat (first | refine blk_drewN ?_ _ | refine blk_drew ?_ | refine blk_alloc ?_ _)); exact BKz2.out⟩, ⟨by (with_reducible repeat (first | refine blk_drewN ?_ _ | refine blk_drew ?_ | refine blk_alloc ?_ _)); refine blk_far ?_ (by have h_ := Kd.R_ne HO_z7000.out BKz6.out (by decide); intro e_; exact h_ (by rw [e_]; rfl)) _; (with_reducible repeat (first | refine blk_drewN ?_ _ | refine blk_drew ?_ | refine blk_alloc ?_ _)); exact BKz6.out⟩, ⟨by repeat (first | (with_reducible first | exact HB.out | apply below_alloc | apply pw_below_drewN | apply below_drew1 | refine below_set ?_ GB29.out | refine below_set ?_ GEz1.out | refine below_set ?_ GEz2.out | refine below_set ?_ GEz6.out | refine below_set ?_ GEz8.out) | exact HB.out)⟩⟩

end Go.Proofs.Ytcfinlmocgbnbaa.Pr
