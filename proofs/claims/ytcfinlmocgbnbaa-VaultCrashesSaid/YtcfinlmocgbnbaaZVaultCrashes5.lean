/-
  A text of what the row VaultCrashes reaches, laid together by a program of this session (wip/tools/shake.py) out of this seat's texts. No condition but the ones that each lemma names.
-/
import Derived.Test.YtcfinlmocgbnbaaZVaultCrashes1
import Derived.Test.YtcfinlmocgbnbaaZVaultCrashes2
import Derived.Test.YtcfinlmocgbnbaaZVaultCrashes4
set_option linter.unusedVariables false
set_option linter.unusedSimpArgs false
section
namespace Go.Proofs.Ytcfinlmocgbnbaa.Pr
open Go.Proofs.Ytcfinlmocgbnbaa.Sq Go.RowKit Go.Proofs.YtcfinlmocgbnbaaW.PrintWords Go.Proofs.YtcfinlmocgbnbaaW.PrintLast Go.Proofs.YtcfinlmocgbnbaaW.PrintMore
attribute [local go_sem] max2_int min2_int max_two min_two max_three min_three max_four min_four
set_option linter.unusedVariables false
set_option linter.unusedSimpArgs false
mutual
def columbariumlaw15_VaultCrashes.l0 : Nat → List (S67) → List Int → Bool → ByteArray → Int → Int → List ByteArray → List (S24) → Int → Int → Int → Option (Bool)
 | 0, _, _, _, _, _, _, _, _, _, _, _ => none
 | k + 1, x1, x2, x7, x12, x13, x14, xz22000, xz22001, xz22002, xz22003, xz22004 => if x14 < (x1.length : Int) then (columbariumlaw15_VaultCrashes.j1 k x1 x2 x7 x12 x13 x14 (decide (x14 < 8)) xz22000 xz22001 xz22002 xz22003 xz22004) else (columbariumlaw15_VaultCrashes.j1 k x1 x2 x7 x12 x13 x14 false xz22000 xz22001 xz22002 xz22003 xz22004)
def columbariumlaw15_VaultCrashes.j1 : Nat → List (S67) → List Int → Bool → ByteArray → Int → Int → Bool → List ByteArray → List (S24) → Int → Int → Int → Option (Bool)
 | 0, _, _, _, _, _, _, _, _, _, _, _, _ => none
 | k + 1, x1, x2, x7, x12, x13, x14, x53, xz22000, xz22001, xz22002, xz22003, xz22004 => if x53 = true then (if 0 ≤ x14 then (if x14 < (x1.length : Int) then ((columbariumlaw15_Text.f k ((rd_T67 x1 x14).f0)).bind fun tz23 => ((columbariumlaw15_pick.f ((rd_T67 x1 x14).f1) 3).bind fun tz25 => ((vault_Moves.f xz22000 xz22001 xz22002 xz22003 xz22004 tz23 (tz25 == 0)).bind fun btz26 => (if btz26.2 = 2 then (columbariumlaw15_VaultCrashes.l0 k x1 x2 x7 x12 x13 (wrap64 (x14 + 1)) xz22000 xz22001 xz22002 xz22003 xz22004) else (if btz26.2 = 0 then (if x12.size + tz23.size ≤ 9223372036854775807 then (if tz25 = 0 then (columbariumlaw15_VaultCrashes.j2 k x1 x2 x7 x12 x13 x14 btz26.1 tz23 xz22000 xz22001 xz22002 xz22003 xz22004) else (columbariumlaw15_VaultCrashes.j2 k x1 x2 x7 x12 x13 x14 btz26.1 (x12 ++ tz23) xz22000 xz22001 xz22002 xz22003 xz22004)) else (none)) else (none)))))) else (none)) else (none)) else (some x7)
def columbariumlaw15_VaultCrashes.j2 : Nat → List (S67) → List Int → Bool → ByteArray → Int → Int → List (S24) → ByteArray → List ByteArray → List (S24) → Int → Int → Int → Option (Bool)
 | 0, _, _, _, _, _, _, _, _, _, _, _, _, _ => none
 | k + 1, x1, x2, x7, x12, x13, x14, x17, x19, xz22000, xz22001, xz22002, xz22003, xz22004 => if 0 ≤ x14 then (if x14 < (x1.length : Int) then ((columbariumlaw15_pick.f ((rd_T67 x1 x14).f2) (wrap64 ((x17.length : Int) + 1))).bind fun tz31 => (if 0 ≤ tz31 then (if tz31 ≤ (x17.length : Int) then ((columbariumref14_Do.f k xz22000 xz22001 (x17.take (tz31 : Int).toNat)).bind fun btz36 => (columbariumlaw15_VaultCrashes.l1 k x1 x2 x7 x12 x13 x14 x17 x19 tz31 btz36.2.2 ([] : List Int) 0 btz36.1 btz36.2.1)) else (none)) else (none))) else (none)) else (none)
def columbariumlaw15_VaultCrashes.l1 : Nat → List (S67) → List Int → Bool → ByteArray → Int → Int → List (S24) → ByteArray → Int → Int → List Int → Int → List ByteArray → List (S24) → Option (Bool)
 | 0, _, _, _, _, _, _, _, _, _, _, _, _, _, _ => none
 | k + 1, x1, x2, x7, x12, x13, x14, x17, x19, x20, x22, x23, x24, xz44000, xz44001 => if x24 < (xz44001.length : Int) then (if (x2.length : Int) > 0 then (if (x2.length : Int) = 0 then (none) else (if 0 ≤ (Int.tmod x13 (x2.length : Int)) then (if (Int.tmod x13 (x2.length : Int)) < (x2.length : Int) then ((columbariumlaw15_pick.f (rd x2 (Int.tmod x13 (x2.length : Int))) 65).bind fun tz45 => (if x23.length < 17592186044416 then (columbariumlaw15_VaultCrashes.l1 k x1 x2 x7 x12 (wrap64 (x13 + 1)) x14 x17 x19 x20 x22 (x23 ++ [tz45]) (wrap64 (x24 + 1)) xz44000 xz44001) else (none))) else (none)) else (none))) else (if x23.length < 17592186044416 then (columbariumlaw15_VaultCrashes.l1 k x1 x2 x7 x12 (wrap64 (x13 + 1)) x14 x17 x19 x20 x22 (x23 ++ [0]) (wrap64 (x24 + 1)) xz44000 xz44001) else (none))) else ((columbariumref14_Crash.f k xz44000 xz44001 x23).bind fun btz52 => ((vault_Open.f btz52.1 btz52.2.1).bind fun btz60 => (if x22 = 0 then (if btz52.2.2 = 0 then (if btz60.2.2.2.2.2.2 = 0 then ((vault_Right.f btz60.1 btz60.2.1 btz60.2.2.1 btz60.2.2.2.1 btz60.2.2.2.2.1).bind fun tz72 => (columbariumlaw15_VaultCrashes.j4 k x1 x2 x7 x12 x13 x14 x17 x19 x20 btz60.2.2.2.2.2.1 (!tz72) btz60.1 btz60.2.1 btz60.2.2.1 btz60.2.2.2.1 btz60.2.2.2.2.1)) else (columbariumlaw15_VaultCrashes.j4 k x1 x2 x7 x12 x13 x14 x17 x19 x20 btz60.2.2.2.2.2.1 true btz60.1 btz60.2.1 btz60.2.2.1 btz60.2.2.2.1 btz60.2.2.2.2.1)) else (columbariumlaw15_VaultCrashes.j4 k x1 x2 x7 x12 x13 x14 x17 x19 x20 btz60.2.2.2.2.2.1 true btz60.1 btz60.2.1 btz60.2.2.1 btz60.2.2.2.1 btz60.2.2.2.2.1)) else (columbariumlaw15_VaultCrashes.j4 k x1 x2 x7 x12 x13 x14 x17 x19 x20 btz60.2.2.2.2.2.1 true btz60.1 btz60.2.1 btz60.2.2.1 btz60.2.2.2.1 btz60.2.2.2.2.1))))
def columbariumlaw15_VaultCrashes.j4 : Nat → List (S67) → List Int → Bool → ByteArray → Int → Int → List (S24) → ByteArray → Int → ByteArray → Bool → List ByteArray → List (S24) → Int → Int → Int → Option (Bool)
 | 0, _, _, _, _, _, _, _, _, _, _, _, _, _, _, _, _ => none
 | k + 1, x1, x2, x7, x12, x13, x14, x17, x19, x20, x29, x153, xz72000, xz72001, xz72002, xz72003, xz72004 => if x153 = true then (none) else (if x29.toList = x19.toList then (columbariumlaw15_VaultCrashes.l0 k x1 x2 x7 x29 x13 (wrap64 (x14 + 1)) xz72000 xz72001 xz72002 xz72003 xz72004) else (if x29.toList = x12.toList then (if x20 = (x17.length : Int) then (none) else (columbariumlaw15_VaultCrashes.l0 k x1 x2 x7 x29 x13 (wrap64 (x14 + 1)) xz72000 xz72001 xz72002 xz72003 xz72004)) else (none)))
end
def columbariumlaw15_VaultCrashes.f (k : Nat) (a0 : Int) (l1 : List (S67)) (l2 : List Int) : Option (Bool) := (columbariumlaw15_awake.f).bind fun tz1 => ((columbariumlaw15_pick.f a0 9).bind fun tz2 => ((columbariumref14_New.f k (wrap64 (4 + tz2))).bind fun btz3 => ((vault_Format.f k btz3.1 btz3.2.1).bind fun btz11 => (if btz11.2.2.2.2.2 = 0 then (columbariumlaw15_VaultCrashes.l0 k l1 l2 tz1 (⟨#[]⟩ : ByteArray) 0 0 btz11.1 btz11.2.1 btz11.2.2.1 btz11.2.2.2.1 btz11.2.2.2.2.1) else (none)))))
def columbariumlaw15_VaultCrashes.T21 : Bool × List (List Nat × List Nat) := (true, [([], []), ([0], [0]), ([], []), ([], []), ([2, 3], [2, 3]), ([1, 4], [1, 4]), ([5], [5]), ([6], [6]), ([6], [6]), ([], []), ([9, 7, 5, 0, 1, 2, 3, 4, 5, 6, 7, 9], [7, 9]), ([8, 10, 0, 1, 2, 3, 4, 5, 6, 7, 8, 9, 10], [8])])
def columbariumlaw15_VaultCrashes.B21 : List Nat := [0, 1, 0, 0, 12, 31, 63, 127, 127, 0, 767, 2047]
theorem columbariumlaw15_VaultCrashes.tab21 : rtab .any (opsOf Try.f9 21) = columbariumlaw15_VaultCrashes.T21 := by kernel_rfl
theorem columbariumlaw15_VaultCrashes.bits21 : waitsOk columbariumlaw15_VaultCrashes.T21.2 columbariumlaw15_VaultCrashes.B21 = true := by kernel_rfl
set_option maxHeartbeats 8000000 in
set_option maxRecDepth 100000 in
theorem columbariumlaw15_VaultCrashes.calls (k : Nat) (a0 : Int) (A1 : Option Addr) (c1 : Nat) (l1 : List (S67)) (A2 : Option Addr) (c2 : Nat) (l2 : List Int) (r : Bool) (w : World) (hr1 : Kd.C k67 w A1 l1.length l1) (hc1 : l1.length ≤ c1) (hr2 : Kd.C (Kd.int .i64) w A2 l2.length l2) (hc2 : l2.length ≤ c2) (h : columbariumlaw15_VaultCrashes.f k a0 l1 l2 = some r) :
  Calls Try.prog 9 #[.int .i64 a0, .slice A1 l1.length c1, .slice A2 l2.length c2] w fun e w' => e = .returned (.bool r) ∧ Below w.heap.size w w' := by
 have hu30 := Try.underlying30
 have hu56 := Try.underlying56
 have hu67 := Try.underlying67
 have HR1 := am hr1
 have HC1 := am hc1
 clear hr1 hc1
 have HR2 := am hr2
 have HC2 := am hc2
 clear hr2 hc2
 have HB := am (Below.refl w.heap.size w)
 have H : ((columbariumlaw15_awake.f).bind fun tz1 => ((columbariumlaw15_pick.f a0 9).bind fun tz2 => ((columbariumref14_New.f k (wrap64 (4 + tz2))).bind fun btz3 => ((vault_Format.f k btz3.1 btz3.2.1).bind fun btz11 => (if btz11.2.2.2.2.2 = 0 then (columbariumlaw15_VaultCrashes.l0 k l1 l2 tz1 (⟨#[]⟩ : ByteArray) 0 0 btz11.1 btz11.2.1 btz11.2.2.1 btz11.2.2.2.1 btz11.2.2.2.2.1) else (none)))))) = some r := h
 clear h
 replace H := ob_ H
 obtain ⟨tz1, A40, H⟩ := H
 replace H : ((columbariumlaw15_pick.f a0 9).bind fun tz2 => ((columbariumref14_New.f k (wrap64 (4 + tz2))).bind fun btz3 => ((vault_Format.f k btz3.1 btz3.2.1).bind fun btz11 => (if btz11.2.2.2.2.2 = 0 then (columbariumlaw15_VaultCrashes.l0 k l1 l2 tz1 (⟨#[]⟩ : ByteArray) 0 0 btz11.1 btz11.2.1 btz11.2.2.1 btz11.2.2.2.1 btz11.2.2.2.2.1) else (none))))) = some r := H
 have A4 := Aside0.mk A40
 clear A40
 replace H := ob_ H
 obtain ⟨tz2, A50, H⟩ := H
 replace H : ((columbariumref14_New.f k (wrap64 (4 + tz2))).bind fun btz3 => ((vault_Format.f k btz3.1 btz3.2.1).bind fun btz11 => (if btz11.2.2.2.2.2 = 0 then (columbariumlaw15_VaultCrashes.l0 k l1 l2 tz1 (⟨#[]⟩ : ByteArray) 0 0 btz11.1 btz11.2.1 btz11.2.2.1 btz11.2.2.2.1 btz11.2.2.2.2.1) else (none)))) = some r := H
 have A5 := Aside0.mk A50
 clear A50
 replace H := ob_ H
 obtain ⟨⟨tz3, tz6, tz9⟩, A60, H⟩ := H
 replace H : ((vault_Format.f k tz3 tz6).bind fun btz11 => (if btz11.2.2.2.2.2 = 0 then (columbariumlaw15_VaultCrashes.l0 k l1 l2 tz1 (⟨#[]⟩ : ByteArray) 0 0 btz11.1 btz11.2.1 btz11.2.2.1 btz11.2.2.2.1 btz11.2.2.2.2.1) else (none))) = some r := H
 have A6 := Aside0.mk A60
 clear A60
 replace H := ob_ H
 obtain ⟨⟨tz11, tz14, tz17, tz18, tz19, tz20⟩, A70, H⟩ := H
 replace H : (if tz20 = 0 then (columbariumlaw15_VaultCrashes.l0 k l1 l2 tz1 (⟨#[]⟩ : ByteArray) 0 0 tz11 tz14 tz17 tz18 tz19) else (none)) = some r := H
 have A7 := Aside0.mk A70
 clear A70
 by_cases c8 : tz20 = 0
 rotate_left
 ·rw [if_neg c8] at H
  exact absurd H (by simp)
 rw [if_pos c8] at H
 have c8b0 : (tz20 == 0) = true := beq_iff_eq.mpr c8
 have c8b1 : (tz20 != 0) = false := bne_eq_false_iff_eq.mpr c8
 clear c8
 have H' := am H
 clear H
 go_enter Try.func9, Try.ntmps9
 go_wp2_with (first | ((with_reducible refine gate_callee (f := 28) rfl ?_); refine goesL_ (some 31) rfl rfl Try.func28 (by kernel_rfl) rfl #[] rfl (by (try simp only [List.map_toArray, List.map_cons, List.map_nil]) <;> rfl) ?_; (with_reducible refine (columbariumlaw15_awake.calls  tz1 _ A4.out).mono ?_); rintro e w9 ⟨rfl, hb⟩; refine ⟨_, rfl, ?_⟩; have n0_ := am (below_step (pb HB) hb); clear HB; have HB := n0_; clear n0_; (try clear hi)) | ((with_reducible refine gate_callee (f := 29) rfl ?_); refine goesL_ (some 34) rfl rfl Try.func29 (by kernel_rfl) rfl #[.int .i64 a0, .int .i64 9] rfl (by (try simp only [List.map_toArray, List.map_cons, List.map_nil]) <;> rfl) ?_; (with_reducible refine (columbariumlaw15_pick.calls a0 9 tz2 _ A5.out).mono ?_); rintro e w' ⟨rfl, ⟨nd, rfl⟩⟩; refine ⟨_, rfl, ?_⟩; (try (rw [drewN_self w9]; generalize hq_ : World.drewN w9 _ = w9; have n0_ : Aside0 (Below w.heap.size w w9) := ⟨by rw [← hq_]; exact (pb HB)⟩; clear HB hq_; have HB := n0_; clear n0_))) | ((with_reducible refine gate_callee (f := 14) rfl ?_); refine goesL_ (some 36) rfl rfl Try.func14 (by kernel_rfl) rfl #[.int .i64 (wrap64 (4 + tz2))] rfl (by (try simp only [List.map_toArray, List.map_cons, List.map_nil]) <;> rfl) ?_; (with_reducible refine (columbariumref14_New.calls k (wrap64 (4 + tz2)) tz3 tz6 tz9 _ A6.out).mono ?_); rintro e w10 ⟨vz4, vz7, rfl, ho0, ho1, hb⟩; refine ⟨_, rfl, ?_⟩; have n0_ := am (Kd.R_lower ho0 (below_size (pb HB))); have n1_ := am (Kd.R_lower ho1 (below_size (pb HB))); have n2_ := am (below_step (pb HB) hb); clear HB; have HOz5 := n0_; have HOz8 := n1_; have HB := n2_; clear n0_ n1_ n2_; (try clear ho1)) | ((with_reducible refine gate_dst (N := 8) rfl ?_); (try (refine gate_guard (by rfl) ?_; dsimp only)); refine box_event ?hg (N := 8) ?hd (cs := #[.slice none 0 0, .slice none 0 0]) (t := 30) ?hr ?_; (case hd => rfl); (case hg => rfl); (case hr => first | (go_simp; done) | (go_simp; rfl)); intro gbz10 hg w11 hbox hb; have n0_ := am (Kd.R_below (pr HOz5) hb); have n1_ := am (Kd.R_below (pr HOz8) hb); have n2_ := am (below_step (pb HB) hb); have n3_ := am (hbox); have n4_ := ge_ hg (pb HB); have n5_ := ge_ hg (pb HB); clear HOz5; clear HOz8; clear HB; have HOz5 := n0_; have HOz8 := n1_; have HB := n2_; have BKz10 := n3_; have GWz10 := n4_; have GEz10 := n5_; clear n0_ n1_ n2_ n3_ n4_ n5_; clear hb hbox hg; obtain ⟨Ao12, co12, eo12⟩ := Kd.R_slice HOz5.out; subst eo12; obtain ⟨hcz13_0, hcz13_1⟩ := bc2 BKz10; obtain ⟨hfz13_0, hfz13_1⟩ := bf2 BKz10; obtain ⟨Ao14, co14, eo14⟩ := Kd.R_slice HOz8.out; subst eo14) | ((with_reducible refine gate_callee (f := 30) rfl ?_); refine goesL_ (some 41) rfl rfl Try.func30 (by kernel_rfl) rfl #[.agg #[.slice Ao12 tz3.length co12, .slice Ao14 tz6.length co14]] rfl (by (try simp only [List.map_toArray, List.map_cons, List.map_nil]) <;> rfl) ?_; (with_reducible refine (vault_Format.calls k _ _ tz3 _ _ tz6 tz11 tz14 tz17 tz18 tz19 tz20 _ ?side1 ?side2 ?side3 ?side4 A7.out).mono ?_); (case side1 => refine (Kd.R_reads' (e := 9) (base := w.heap.size) (ok := fun k_ => True) (n := tz3.length) (c := co12) ?_).2.2; exact (by (with_reducible repeat first | apply ra | apply rn | apply rd); exact (rs2 HOz5 BKz10 (by decide)))); (case side2 => exact (Kd.R_reads' HOz5.out).2.1); (case side3 => refine (Kd.R_reads' (e := 24) (base := w.heap.size) (ok := fun k_ => True) (n := tz6.length) (c := co14) ?_).2.2; exact (by (with_reducible repeat first | apply ra | apply rn | apply rd); exact (rs2 HOz8 BKz10 (by decide)))); (case side4 => exact (Kd.R_reads' HOz8.out).2.1); rintro e w15 ⟨vz12, vz15, rfl, ho0, ho1, hb⟩; refine ⟨_, rfl, ?_⟩; have n0_ := am (Kd.R_elder' (by (with_reducible repeat first | apply ra | apply rn | apply rd); exact (rs2 HOz5 BKz10 (by decide))) (Kd.R_base ho0) hb); have n1_ := am (Kd.R_elder' (by (with_reducible repeat first | apply ra | apply rn | apply rd); exact (rs2 HOz8 BKz10 (by decide))) (Kd.R_base ho1) hb); have n2_ := am (Kd.R_lower (Kd.R_new' ho0 (Kd.R_lt (by (with_reducible repeat first | apply ra | apply rn | apply rd); exact (rs2 HOz5 BKz10 (by decide))))) (below_size (by repeat first | (with_reducible first | exact HB.out | apply ba | apply bn | apply bd | refine bs (by assumption) ?_) | exact HB.out))); have n3_ := am (Kd.R_lower (Kd.R_new' ho1 (Kd.R_lt (by (with_reducible repeat first | apply ra | apply rn | apply rd); exact (rs2 HOz8 BKz10 (by decide))))) (below_size (by repeat first | (with_reducible first | exact HB.out | apply ba | apply bn | apply bd | refine bs (by assumption) ?_) | exact HB.out))); have n4_ := am (bkB (g := gbz10) (o := .cells #[.slice Ao12 tz3.length co12, .slice Ao14 tz6.length co14] 30 (0, 0)) (by (with_reducible repeat (first | refine blk_drewN ?_ _ | refine bkD ?_ | refine bkA ?_ _)); apply bp2; exact pk BKz10) hb); have n5_ := am (below_step (by repeat first | (with_reducible first | exact HB.out | apply ba | apply bn | apply bd | refine bs (by assumption) ?_) | exact HB.out) hb); clear HOz5; clear HOz8; clear BKz10; clear HB; have HOz5 := n0_; have HOz8 := n1_; have HOz13 := n2_; have HOz16 := n3_; have BKz10 := n4_; have HB := n5_; clear n0_ n1_ n2_ n3_ n4_ n5_; (try clear ho1)) | ((with_reducible refine gate_dst (N := 10) rfl ?_); (try (refine gate_guard (by rfl) ?_; dsimp only)); refine box_event ?hg (N := 10) ?hd (cs := #[.slice none 0 0, .slice none 0 0, .int .i64 0, .int .i64 0, .int .i64 0]) (t := 56) ?hr ?_; (case hd => rfl); (case hg => rfl); (case hr => first | (go_simp; done) | (go_simp; rfl)); intro gbz21 hg w16 hbox hb; have n0_ := am (Kd.R_below (pr HOz5) hb); have n1_ := am (Kd.R_below (pr HOz8) hb); have n2_ := am (Kd.R_below (pr HOz13) hb); have n3_ := am (Kd.R_below (pr HOz16) hb); have n4_ := am (bkB (pk BKz10) hb); have n5_ := am (below_step (by repeat first | (with_reducible first | exact HB.out | apply ba | apply bn | apply bd | refine bs (by assumption) ?_) | exact HB.out) hb); have n6_ := am (hbox); have n7_ := ge_ hg (by repeat first | (with_reducible first | exact HB.out | apply ba | apply bn | apply bd | refine bs (by assumption) ?_) | exact HB.out); have n8_ := ge_ hg (by repeat first | (with_reducible first | exact HB.out | apply ba | apply bn | apply bd | refine bs (by assumption) ?_) | exact HB.out); have n9_ := nl_ hg BKz10; have n10_ := ng_ hg BKz10; clear HOz5; clear HOz8; clear HOz13; clear HOz16; clear BKz10; clear HB; have HOz5 := n0_; have HOz8 := n1_; have HOz13 := n2_; have HOz16 := n3_; have BKz10 := n4_; have HB := n5_; have BKz21 := n6_; have GWz21 := n7_; have GEz21 := n8_; have NBz10_z21 := n9_; have NBz21_z10 := n10_; clear n0_ n1_ n2_ n3_ n4_ n5_ n6_ n7_ n8_ n9_ n10_; clear hb hbox hg; obtain ⟨Ao17, co17, eo17⟩ := Kd.R_slice HOz13.out; subst eo17; have hnb18 := NBz21_z10.out; have hnc18 := NBz10_z21.out; obtain ⟨hcz19_0, hcz19_1, hcz19_2, hcz19_3, hcz19_4⟩ := bc5 BKz21; obtain ⟨hfz19_0, hfz19_1, hfz19_2, hfz19_3, hfz19_4⟩ := bf5 BKz21; obtain ⟨Ao20, co20, eo20⟩ := Kd.R_slice HOz16.out; subst eo20))
 go_loopg [12, 13, 14] k (fun kq v12 v13 v14 w' => ∃ (x12_1 : ByteArray) (x13_1 : Int) (x14_1 : Int) (xz22000_1 : List ByteArray) (xz22001_1 : List (S24)) (xz22002_1 : Int) (xz22003_1 : Int) (xz22004_1 : Int) (uz22000 : Value) (uz22001 : Value), v12 = .string x12_1 ∧ v13 = .int .i64 x13_1 ∧ v14 = .int .i64 x14_1 ∧ Aside0 (columbariumlaw15_VaultCrashes.l0 kq l1 l2 tz1 x12_1 x13_1 x14_1 xz22000_1 xz22001_1 xz22002_1 xz22003_1 xz22004_1 = some r) ∧ Aside0 (kq ≤ k) ∧ Aside0 (Kd.R Kd.string 9 w' w.heap.size (fun k_ => some k_ ≠ (uz22000 : Value).ownBlock) (.slice Ao12 tz3.length co12) tz3) ∧ Aside0 (Kd.R k24 24 w' w.heap.size (fun k_ => some k_ ≠ (uz22001 : Value).ownBlock) (.slice Ao14 tz6.length co14) tz6) ∧ Aside0 (Kd.R Kd.string 9 w' w.heap.size (fun k_ => some k_ ≠ ((.slice Ao12 tz3.length co12) : Value).ownBlock) uz22000 xz22000_1) ∧ Aside0 (Kd.R k24 24 w' w.heap.size (fun k_ => some k_ ≠ ((.slice Ao14 tz6.length co14) : Value).ownBlock) uz22001 xz22001_1) ∧ Aside0 (w'.heap[gbz10]? = some (.cells #[(.slice Ao12 tz3.length co12), (.slice Ao14 tz6.length co14)] 30 (0, 0))) ∧ Aside0 (w'.heap[gbz21]? = some (.cells #[uz22000, uz22001, .int .i64 xz22002_1, .int .i64 xz22003_1, .int .i64 xz22004_1] 56 (0, 0))) ∧ Aside0 (Below w.heap.size w w'))
 case atStart => exact ⟨((⟨#[]⟩ : ByteArray)), (0), (0), (tz11), (tz14), (tz17), (tz18), (tz19), (.slice Ao17 tz11.length co17), (.slice Ao20 tz14.length co20), (by first | rfl | (simp; done) | (simp [*]; done)), (by first | rfl | (simp; done) | (simp [*]; done)), (by first | rfl | (simp; done) | (simp [*]; done)), H', ⟨Nat.le_refl _⟩, ⟨by (with_reducible repeat first | apply ra | apply rn | apply rd); exact Kd.R_mono (rf5 (Kd.R_types HOz5.out BKz21.out (by decide)) (fun _ hk => hk.2)) (fun _ hk => hk.1.2)⟩, ⟨by (with_reducible repeat first | apply ra | apply rn | apply rd); exact Kd.R_mono (rf5 (Kd.R_types HOz8.out BKz21.out (by decide)) (fun _ hk => hk.2)) (fun _ hk => hk.1.2)⟩, ⟨by (with_reducible repeat first | apply ra | apply rn | apply rd); exact Kd.R_mono (rf5 (Kd.R_types HOz13.out BKz21.out (by decide)) (fun _ hk => hk.2)) (fun _ hk => hk.1.2)⟩, ⟨by (with_reducible repeat first | apply ra | apply rn | apply rd); exact Kd.R_mono (rf5 (Kd.R_types HOz16.out BKz21.out (by decide)) (fun _ hk => hk.2)) (fun _ hk => hk.1.2)⟩, ⟨by (with_reducible repeat (first | refine blk_drewN ?_ _ | refine bkD ?_ | refine bkA ?_ _)); refine br5 ?_ NBz10_z21; (with_reducible repeat (first | refine blk_drewN ?_ _ | refine bkD ?_ | refine bkA ?_ _)); exact BKz10.out⟩, ⟨by (with_reducible repeat (first | refine blk_drewN ?_ _ | refine bkD ?_ | refine bkA ?_ _)); apply bp5; (with_reducible repeat (first | refine blk_drewN ?_ _ | refine bkD ?_ | refine bkA ?_ _)); exact BKz21.out⟩, ⟨by repeat first | (with_reducible first | exact HB.out | apply ba | apply bn | apply bd | refine bs (by assumption) ?_) | exact HB.out⟩⟩
 clear H'
 try clear c1
 try clear c2
 try clear p2
 try clear c3
 try clear p6
 try clear c8
 try clear c8b0
 try clear c8b1
 try clear c9
 try clear c14
 try clear c18
 try clear hcz13_0
 try clear hcz13_1
 try clear hcz19_0
 try clear hcz19_1
 try clear hcz19_2
 try clear hcz19_3
 try clear hcz19_4
 try clear hfz13_0
 try clear hfz13_1
 try clear hfz19_0
 try clear hfz19_1
 try clear hfz19_2
 try clear hfz19_3
 try clear hfz19_4
 obtain ⟨x12_1, x13_1, x14_1, xz22000_1, xz22001_1, xz22002_1, xz22003_1, xz22004_1, uz22000, uz22001, rfl, rfl, rfl, HA, HK1, HO_z11000, HO_z11001, HO_z22000, HO_z22001, BKz10, BKz21, HB⟩ := hrel
 cases gk with
 | zero => exact absurd HA.out (by simp [columbariumlaw15_VaultCrashes.l0])
 | succ k1 => ?_
 have H := HA.out
 clear HA
 simp only [columbariumlaw15_VaultCrashes.l0] at H
 have HC21 := am H
 clear H
 go_upto_region 9 with (fail)
 go_cut [53] (fun v53 wc => ∃ (kq : Nat) (x53_20 : Bool), v53 = .bool x53_20 ∧ Aside0 (columbariumlaw15_VaultCrashes.j1 kq l1 l2 tz1 x12_1 x13_1 x14_1 x53_20 xz22000_1 xz22001_1 xz22002_1 xz22003_1 xz22004_1 = some r) ∧ Aside0 (kq ≤ k1) ∧ Aside0 (Kd.R Kd.string 9 wc w.heap.size (fun k_ => some k_ ≠ (uz22000 : Value).ownBlock) (.slice Ao12 tz3.length co12) tz3) ∧ Aside0 (Kd.R k24 24 wc w.heap.size (fun k_ => some k_ ≠ (uz22001 : Value).ownBlock) (.slice Ao14 tz6.length co14) tz6) ∧ Aside0 (Kd.R Kd.string 9 wc w.heap.size (fun k_ => some k_ ≠ ((.slice Ao12 tz3.length co12) : Value).ownBlock) uz22000 xz22000_1) ∧ Aside0 (Kd.R k24 24 wc w.heap.size (fun k_ => some k_ ≠ ((.slice Ao14 tz6.length co14) : Value).ownBlock) uz22001 xz22001_1) ∧ Aside0 (wc.heap[gbz10]? = some (.cells #[(.slice Ao12 tz3.length co12), (.slice Ao14 tz6.length co14)] 30 (0, 0))) ∧ Aside0 (wc.heap[gbz21]? = some (.cells #[uz22000, uz22001, .int .i64 xz22002_1, .int .i64 xz22003_1, .int .i64 xz22004_1] 56 (0, 0))) ∧ Aside0 (Below w.heap.size w wc))
 case first =>
  have H := HC21.out
  clear HC21
  by_cases c22 : x14_1 < (l1.length : Int)
  rotate_left
  ·rw [if_neg c22] at H
   have c22b0 : decide (x14_1 < (l1.length : Int)) = false := decide_eq_false c22
   clear c22
   (first | rw [c22b0] | rw [c22b1] | (simp only [i64_w, i32_w]; rw [c22b0]) | skip)
   have H' := am H
   clear H
   go_wp2
   go_meet
   case rel => exact ⟨_, (false), (by first | rfl | (simp; done) | (simp [*]; done)), H', ⟨by have := HK1.out; first | omega | exact Nat.le_refl _⟩, ⟨by (with_reducible repeat first | apply ra | apply rn | apply rd); exact HO_z11000.out⟩, ⟨by (with_reducible repeat first | apply ra | apply rn | apply rd); exact HO_z11001.out⟩, ⟨by (with_reducible repeat first | apply ra | apply rn | apply rd); exact HO_z22000.out⟩, ⟨by (with_reducible repeat first | apply ra | apply rn | apply rd); exact HO_z22001.out⟩, ⟨by (with_reducible repeat (first | refine blk_drewN ?_ _ | refine bkD ?_ | refine bkA ?_ _)); exact BKz10.out⟩, ⟨by (with_reducible repeat (first | refine blk_drewN ?_ _ | refine bkD ?_ | refine bkA ?_ _)); exact BKz21.out⟩, ⟨by repeat first | (with_reducible first | exact HB.out | apply ba | apply bn | apply bd | refine bs (by assumption) ?_) | exact HB.out⟩⟩
  rw [if_pos c22] at H
  have c22b0 : decide (x14_1 < (l1.length : Int)) = true := decide_eq_true c22
  clear c22
  (first | rw [c22b0] | rw [c22b1] | (simp only [i64_w, i32_w]; rw [c22b0]) | skip)
  have H' := am H
  clear H
  go_wp2
  go_meet
  case rel => exact ⟨_, (decide (x14_1 < 8)), (by first | rfl | (simp; done) | (simp [*]; done)), H', ⟨by have := HK1.out; first | omega | exact Nat.le_refl _⟩, ⟨by (with_reducible repeat first | apply ra | apply rn | apply rd); exact HO_z11000.out⟩, ⟨by (with_reducible repeat first | apply ra | apply rn | apply rd); exact HO_z11001.out⟩, ⟨by (with_reducible repeat first | apply ra | apply rn | apply rd); exact HO_z22000.out⟩, ⟨by (with_reducible repeat first | apply ra | apply rn | apply rd); exact HO_z22001.out⟩, ⟨by (with_reducible repeat (first | refine blk_drewN ?_ _ | refine bkD ?_ | refine bkA ?_ _)); exact BKz10.out⟩, ⟨by (with_reducible repeat (first | refine blk_drewN ?_ _ | refine bkD ?_ | refine bkA ?_ _)); exact BKz21.out⟩, ⟨by repeat first | (with_reducible first | exact HB.out | apply ba | apply bn | apply bd | refine bs (by assumption) ?_) | exact HB.out⟩⟩
 clear HC21
 try clear c1
 try clear c2
 try clear p2
 try clear c3
 try clear p6
 try clear c8
 try clear c8b0
 try clear c8b1
 try clear c9
 try clear c14
 try clear c18
 try clear c22
 try clear c22b0
 try clear c22b1
 try clear hcz13_0
 try clear hcz13_1
 try clear hcz19_0
 try clear hcz19_1
 try clear hcz19_2
 try clear hcz19_3
 try clear hcz19_4
 try clear hfz13_0
 try clear hfz13_1
 try clear hfz19_0
 try clear hfz19_1
 try clear hfz19_2
 try clear hfz19_3
 try clear hfz19_4
 try clear p2
 try clear p6
 obtain ⟨kq, x53_20, rfl, HA, HJ20, HO_z11000, HO_z11001, HO_z22000, HO_z22001, BKz10, BKz21, HB⟩ := hcut
 cases kq with
 | zero => exact absurd HA.out (by simp [columbariumlaw15_VaultCrashes.j1])
 | succ kj20 => ?_
 have H := HA.out
 clear HA
 simp only [columbariumlaw15_VaultCrashes.j1] at H
 by_cases c23 : x53_20 = true
 rotate_left
 ·replace c23 := Bool.eq_false_iff.mpr c23
  subst c23
  have H1 : (some tz1) = some r := by rw [if_neg (show ¬ (false = true) by decide)] at H; exact H
  clear H
  have H := H1
  clear H1
  obtain rfl := Option.some.inj H
  go_wp2
  go_ret
  exact ⟨by first | rfl | (simp <;> rfl) | (simp [*] <;> rfl), by repeat first | (with_reducible first | exact HB.out | apply ba | apply bn | apply bd | refine bs (by assumption) ?_) | exact HB.out⟩
 subst c23
 have H1 : (if 0 ≤ x14_1 then (if x14_1 < (l1.length : Int) then ((columbariumlaw15_Text.f kj20 ((rd_T67 l1 x14_1).f0)).bind fun tz23 => ((columbariumlaw15_pick.f ((rd_T67 l1 x14_1).f1) 3).bind fun tz25 => ((vault_Moves.f xz22000_1 xz22001_1 xz22002_1 xz22003_1 xz22004_1 tz23 (tz25 == 0)).bind fun btz26 => (if btz26.2 = 2 then (columbariumlaw15_VaultCrashes.l0 kj20 l1 l2 tz1 x12_1 x13_1 (wrap64 (x14_1 + 1)) xz22000_1 xz22001_1 xz22002_1 xz22003_1 xz22004_1) else (if btz26.2 = 0 then (if x12_1.size + tz23.size ≤ 9223372036854775807 then (if tz25 = 0 then (columbariumlaw15_VaultCrashes.j2 kj20 l1 l2 tz1 x12_1 x13_1 x14_1 btz26.1 tz23 xz22000_1 xz22001_1 xz22002_1 xz22003_1 xz22004_1) else (columbariumlaw15_VaultCrashes.j2 kj20 l1 l2 tz1 x12_1 x13_1 x14_1 btz26.1 (x12_1 ++ tz23) xz22000_1 xz22001_1 xz22002_1 xz22003_1 xz22004_1)) else (none)) else (none)))))) else (none)) else (none)) = some r := by rw [if_pos rfl] at H; exact H
 clear H
 have H := H1
 clear H1
 by_cases c24 : 0 ≤ x14_1
 rotate_left
 ·rw [if_neg c24] at H
  exact absurd H (by simp)
 rw [if_pos c24] at H
 have c24b0 : decide (0 ≤ x14_1) = true := decide_eq_true c24
 clear c24
 by_cases c25 : x14_1 < (l1.length : Int)
 rotate_left
 ·rw [if_neg c25] at H
  exact absurd H (by simp)
 rw [if_pos c25] at H
 have c25b0 : decide (x14_1 < (l1.length : Int)) = true := decide_eq_true c25
 clear c25
 replace H := ob_ H
 obtain ⟨tz23, A260, H⟩ := H
 replace H : ((columbariumlaw15_pick.f ((rd_T67 l1 x14_1).f1) 3).bind fun tz25 => ((vault_Moves.f xz22000_1 xz22001_1 xz22002_1 xz22003_1 xz22004_1 tz23 (tz25 == 0)).bind fun btz26 => (if btz26.2 = 2 then (columbariumlaw15_VaultCrashes.l0 kj20 l1 l2 tz1 x12_1 x13_1 (wrap64 (x14_1 + 1)) xz22000_1 xz22001_1 xz22002_1 xz22003_1 xz22004_1) else (if btz26.2 = 0 then (if x12_1.size + tz23.size ≤ 9223372036854775807 then (if tz25 = 0 then (columbariumlaw15_VaultCrashes.j2 kj20 l1 l2 tz1 x12_1 x13_1 x14_1 btz26.1 tz23 xz22000_1 xz22001_1 xz22002_1 xz22003_1 xz22004_1) else (columbariumlaw15_VaultCrashes.j2 kj20 l1 l2 tz1 x12_1 x13_1 x14_1 btz26.1 (x12_1 ++ tz23) xz22000_1 xz22001_1 xz22002_1 xz22003_1 xz22004_1)) else (none)) else (none))))) = some r := H
 have A26 := Aside0.mk A260
 clear A260
 replace H := ob_ H
 obtain ⟨tz25, A270, H⟩ := H
 replace H : ((vault_Moves.f xz22000_1 xz22001_1 xz22002_1 xz22003_1 xz22004_1 tz23 (tz25 == 0)).bind fun btz26 => (if btz26.2 = 2 then (columbariumlaw15_VaultCrashes.l0 kj20 l1 l2 tz1 x12_1 x13_1 (wrap64 (x14_1 + 1)) xz22000_1 xz22001_1 xz22002_1 xz22003_1 xz22004_1) else (if btz26.2 = 0 then (if x12_1.size + tz23.size ≤ 9223372036854775807 then (if tz25 = 0 then (columbariumlaw15_VaultCrashes.j2 kj20 l1 l2 tz1 x12_1 x13_1 x14_1 btz26.1 tz23 xz22000_1 xz22001_1 xz22002_1 xz22003_1 xz22004_1) else (columbariumlaw15_VaultCrashes.j2 kj20 l1 l2 tz1 x12_1 x13_1 x14_1 btz26.1 (x12_1 ++ tz23) xz22000_1 xz22001_1 xz22002_1 xz22003_1 xz22004_1)) else (none)) else (none)))) = some r := H
 have A27 := Aside0.mk A270
 clear A270
 replace H := ob_ H
 obtain ⟨⟨tz26, tz29⟩, A280, H⟩ := H
 replace H : (if tz29 = 2 then (columbariumlaw15_VaultCrashes.l0 kj20 l1 l2 tz1 x12_1 x13_1 (wrap64 (x14_1 + 1)) xz22000_1 xz22001_1 xz22002_1 xz22003_1 xz22004_1) else (if tz29 = 0 then (if x12_1.size + tz23.size ≤ 9223372036854775807 then (if tz25 = 0 then (columbariumlaw15_VaultCrashes.j2 kj20 l1 l2 tz1 x12_1 x13_1 x14_1 tz26 tz23 xz22000_1 xz22001_1 xz22002_1 xz22003_1 xz22004_1) else (columbariumlaw15_VaultCrashes.j2 kj20 l1 l2 tz1 x12_1 x13_1 x14_1 tz26 (x12_1 ++ tz23) xz22000_1 xz22001_1 xz22002_1 xz22003_1 xz22004_1)) else (none)) else (none))) = some r := H
 have A28 := Aside0.mk A280
 clear A280
 by_cases c29 : tz29 = 2
 ·rw [if_pos c29] at H
  have c29b0 : (tz29 == 2) = true := beq_iff_eq.mpr c29
  have c29b1 : (tz29 != 2) = false := bne_eq_false_iff_eq.mpr c29
  clear c29
  have H' := am H
  clear H
  have pz22 : 0 ≤ (x14_1 : Int) := of_decide_eq_true (by first | (with_reducible assumption) | assumption)
  have qz22 : x14_1 < (l1.length : Int) := of_decide_eq_true (by first | (with_reducible assumption) | assumption)
  obtain ⟨adz22, ez22, hxz22_0, hxz22_1, hxz22_2⟩ := at_T67 HR1.out x14_1 pz22 qz22
  cases ez22
  replace hxz22_0 := (HB.out.cell (World.block_lt_of_cell? w _ hxz22_0)).trans hxz22_0
  replace hxz22_1 := (HB.out.cell (World.block_lt_of_cell? w _ hxz22_1)).trans hxz22_1
  replace hxz22_2 := (HB.out.cell (World.block_lt_of_cell? w _ hxz22_2)).trans hxz22_2
  replace pz22 := eq_true pz22
  replace qz22 := eq_true qz22
  go_wp2_with (first | ((with_reducible refine gate_callee (f := 32) rfl ?_); refine goesL_ (some 61) rfl rfl Try.func32 (by kernel_rfl) rfl #[.int .i64 ((rd_T67 l1 x14_1).f0)] rfl (by (try simp only [List.map_toArray, List.map_cons, List.map_nil]) <;> rfl) ?_; (with_reducible refine (columbariumlaw15_Text.calls kj20 ((rd_T67 l1 x14_1).f0) tz23 _ A26.out).mono ?_); rintro e w30 ⟨rfl, hb⟩; refine ⟨_, rfl, ?_⟩; have n0_ := am (Kd.R_below (pr HO_z11000) hb); have n1_ := am (Kd.R_below (pr HO_z11001) hb); have n2_ := am (Kd.R_below (pr HO_z22000) hb); have n3_ := am (Kd.R_below (pr HO_z22001) hb); have n4_ := am (bkB (pk BKz10) hb); have n5_ := am (bkB (pk BKz21) hb); have n6_ := am (below_step (by repeat first | (with_reducible first | exact HB.out | apply ba | apply bn | apply bd | refine bs (by assumption) ?_) | exact HB.out) hb); clear HO_z11000; clear HO_z11001; clear HO_z22000; clear HO_z22001; clear BKz10; clear BKz21; clear HB; have HO_z11000 := n0_; have HO_z11001 := n1_; have HO_z22000 := n2_; have HO_z22001 := n3_; have BKz10 := n4_; have BKz21 := n5_; have HB := n6_; clear n0_ n1_ n2_ n3_ n4_ n5_ n6_; have pz24 : 0 ≤ (x14_1 : Int) := of_decide_eq_true (by first | (with_reducible assumption) | assumption); have qz24 : x14_1 < (l1.length : Int) := of_decide_eq_true (by first | (with_reducible assumption) | assumption); obtain ⟨adz24, ez24, hxz24_0, hxz24_1, hxz24_2⟩ := at_T67 HR1.out x14_1 pz24 qz24; obtain rfl : adz22 = adz24 := (by injection ez24); replace hxz24_0 := (HB.out.cell (World.block_lt_of_cell? w _ hxz24_0)).trans hxz24_0; replace hxz24_1 := (HB.out.cell (World.block_lt_of_cell? w _ hxz24_1)).trans hxz24_1; replace hxz24_2 := (HB.out.cell (World.block_lt_of_cell? w _ hxz24_2)).trans hxz24_2; replace pz24 := eq_true pz24; replace qz24 := eq_true qz24) | ((with_reducible refine gate_callee (f := 29) rfl ?_); refine goesL_ (some 67) rfl rfl Try.func29 (by kernel_rfl) rfl #[.int .i64 ((rd_T67 l1 x14_1).f1), .int .i64 3] rfl (by (try simp only [List.map_toArray, List.map_cons, List.map_nil]) <;> rfl) ?_; (with_reducible refine (columbariumlaw15_pick.calls ((rd_T67 l1 x14_1).f1) 3 tz25 _ A27.out).mono ?_); rintro e w' ⟨rfl, ⟨nd, rfl⟩⟩; refine ⟨_, rfl, ?_⟩; have hnb31 := NBz21_z10.out; have hnc31 := NBz10_z21.out; obtain ⟨hcz32_0, hcz32_1, hcz32_2, hcz32_3, hcz32_4⟩ := bc5 BKz21; obtain ⟨hfz32_0, hfz32_1, hfz32_2, hfz32_3, hfz32_4⟩ := bf5 BKz21; obtain ⟨Ao33, co33, eo33⟩ := Kd.R_slice HO_z22000.out; subst eo33; obtain ⟨Ao34, co34, eo34⟩ := Kd.R_slice HO_z22001.out; subst eo34) | ((with_reducible refine gate_callee (f := 37) rfl ?_); refine goesL_ (some 73) rfl rfl Try.func37 (by kernel_rfl) rfl #[.agg #[.slice Ao33 xz22000_1.length co33, .slice Ao34 xz22001_1.length co34, .int .i64 xz22002_1, .int .i64 xz22003_1, .int .i64 xz22004_1], .string tz23, .bool (tz25 == 0)] rfl (by (try simp only [List.map_toArray, List.map_cons, List.map_nil]) <;> rfl) ?_; (with_reducible refine (vault_Moves.calls _ _ xz22000_1 _ _ xz22001_1 xz22002_1 xz22003_1 xz22004_1 tz23 (tz25 == 0) tz26 tz29 _ ?side1 ?side2 ?side3 ?side4 A28.out).mono ?_); (case side1 => repeat (first | exact (Kd.R_reads' HO_z22000.out).2.2 | (with_reducible refine Kd.C_alloc ?_ _) | (with_reducible refine Kd.C_drewN ?_ _) | (with_reducible refine Kd.C_drew ?_))); (case side2 => exact (Kd.R_reads' HO_z22000.out).2.1); (case side3 => repeat (first | exact (Kd.R_reads' HO_z22001.out).2.2 | (with_reducible refine Kd.C_alloc ?_ _) | (with_reducible refine Kd.C_drewN ?_ _) | (with_reducible refine Kd.C_drew ?_))); (case side4 => exact (Kd.R_reads' HO_z22001.out).2.1); rintro e w35 ⟨vz27, rfl, ho0, hb⟩; refine ⟨_, rfl, ?_⟩; have n0_ := am (Kd.R_below (pr HO_z11000) hb); have n1_ := am (Kd.R_elder' (pr HO_z11001) (Kd.R_base ho0) hb); have n2_ := am (Kd.R_below (pr HO_z22000) hb); have n3_ := am (Kd.R_elder' (pr HO_z22001) (Kd.R_base ho0) hb); have n4_ := am (Kd.R_lower (Kd.R_new' (Kd.R_new' ho0 (Kd.R_lt (pr HO_z11001))) (Kd.R_lt (pr HO_z22001))) (below_size (by repeat first | (with_reducible first | exact HB.out | apply ba | apply bn | apply bd | refine bs (by assumption) ?_) | exact HB.out))); have n5_ := am (bkB (pk BKz10) hb); have n6_ := am (bkB (pk BKz21) hb); have n7_ := am (below_step (by repeat first | (with_reducible first | exact HB.out | apply ba | apply bn | apply bd | refine bs (by assumption) ?_) | exact HB.out) hb); clear HO_z11000; clear HO_z11001; clear HO_z22000; clear HO_z22001; clear BKz10; clear BKz21; clear HB; have HO_z11000 := n0_; have HO_z11001 := n1_; have HO_z22000 := n2_; have HO_z22001 := n3_; have HOz28 := n4_; have BKz10 := n5_; have BKz21 := n6_; have HB := n7_; clear n0_ n1_ n2_ n3_ n4_ n5_ n6_ n7_; (try clear ho0)))
  go_roundg kj20
  case measure => have := HK1.out; have := HJ20.out; omega
  case rel => exact ⟨(x12_1), (x13_1), (wrap64 (x14_1 + 1)), (xz22000_1), (xz22001_1), (xz22002_1), (xz22003_1), (xz22004_1), (.slice Ao33 xz22000_1.length co33), (.slice Ao34 xz22001_1.length co34), (by first | rfl | (simp; done) | (simp [*]; done)), (by first | rfl | (simp; done) | (simp [*]; done)), (by first | rfl | (simp; done) | (simp [*]; done)), H', ⟨by have := HK1.out; have := HJ20.out; omega⟩, ⟨by (with_reducible repeat first | apply ra | apply rn | apply rd); exact HO_z11000.out⟩, ⟨by (with_reducible repeat first | apply ra | apply rn | apply rd); exact Kd.R_mono HO_z11001.out (fun _ hk => hk.1)⟩, ⟨by (with_reducible repeat first | apply ra | apply rn | apply rd); exact HO_z22000.out⟩, ⟨by (with_reducible repeat first | apply ra | apply rn | apply rd); exact Kd.R_mono HO_z22001.out (fun _ hk => hk.1)⟩, ⟨by (with_reducible repeat (first | refine blk_drewN ?_ _ | refine bkD ?_ | refine bkA ?_ _)); exact BKz10.out⟩, ⟨by (with_reducible repeat (first | refine blk_drewN ?_ _ | refine bkD ?_ | refine bkA ?_ _)); exact BKz21.out⟩, ⟨by repeat first | (with_reducible first | exact HB.out | apply ba | apply bn | apply bd | refine bs (by assumption) ?_) | exact HB.out⟩⟩
 rw [if_neg c29] at H
 have c29b0 : (tz29 == 2) = false := beq_eq_false_iff_ne.mpr c29
 have c29b1 : (tz29 != 2) = true := bne_iff_ne.mpr c29
 by_cases c36 : tz29 = 0
 rotate_left
 ·rw [if_neg c36] at H
  exact absurd H (by simp)
 rw [if_pos c36] at H
 have c36b0 : (tz29 == 0) = true := beq_iff_eq.mpr c36
 have c36b1 : (tz29 != 0) = false := bne_eq_false_iff_eq.mpr c36
 clear c36
 by_cases c37 : x12_1.size + tz23.size ≤ 9223372036854775807
 rotate_left
 ·rw [if_neg c37] at H
  exact absurd H (by simp)
 rw [if_pos c37] at H
 have c37b0 := eq_true c37
 have c37b1 : decide (x12_1.size + tz23.size ≤ 9223372036854775807) = true := decide_eq_true c37
 try have c37b2 : (9223372036854775807 < x12_1.size + tz23.size) = False := eq_false (Nat.not_lt.2 c37)
 obtain ⟨sx38, hsx38⟩ : ∃ s_ : ByteArray, (x12_1 ++ tz23) = s_ := ⟨_, rfl⟩
 replace H : (if tz25 = 0 then (columbariumlaw15_VaultCrashes.j2 kj20 l1 l2 tz1 x12_1 x13_1 x14_1 tz26 tz23 xz22000_1 xz22001_1 xz22002_1 xz22003_1 xz22004_1) else (columbariumlaw15_VaultCrashes.j2 kj20 l1 l2 tz1 x12_1 x13_1 x14_1 tz26 sx38 xz22000_1 xz22001_1 xz22002_1 xz22003_1 xz22004_1)) = some r := by first | (rw [hsx38] at H; exact H) | (simp only [hsx38] at H ⊢; exact H) | exact H
 have HC39 := am H
 clear H
 have pz22 : 0 ≤ (x14_1 : Int) := of_decide_eq_true (by first | (with_reducible assumption) | assumption)
 have qz22 : x14_1 < (l1.length : Int) := of_decide_eq_true (by first | (with_reducible assumption) | assumption)
 obtain ⟨adz22, ez22, hxz22_0, hxz22_1, hxz22_2⟩ := at_T67 HR1.out x14_1 pz22 qz22
 cases ez22
 replace hxz22_0 := (HB.out.cell (World.block_lt_of_cell? w _ hxz22_0)).trans hxz22_0
 replace hxz22_1 := (HB.out.cell (World.block_lt_of_cell? w _ hxz22_1)).trans hxz22_1
 replace hxz22_2 := (HB.out.cell (World.block_lt_of_cell? w _ hxz22_2)).trans hxz22_2
 replace pz22 := eq_true pz22
 replace qz22 := eq_true qz22
 go_upto_if 83 with (first | ((with_reducible refine gate_callee (f := 32) rfl ?_); refine goesL_ (some 61) rfl rfl Try.func32 (by kernel_rfl) rfl #[.int .i64 ((rd_T67 l1 x14_1).f0)] rfl (by (try simp only [List.map_toArray, List.map_cons, List.map_nil]) <;> rfl) ?_; (with_reducible refine (columbariumlaw15_Text.calls kj20 ((rd_T67 l1 x14_1).f0) tz23 _ A26.out).mono ?_); rintro e w40 ⟨rfl, hb⟩; refine ⟨_, rfl, ?_⟩; have n0_ := am (Kd.R_below (pr HO_z11000) hb); have n1_ := am (Kd.R_below (pr HO_z11001) hb); have n2_ := am (Kd.R_below (pr HO_z22000) hb); have n3_ := am (Kd.R_below (pr HO_z22001) hb); have n4_ := am (bkB (pk BKz10) hb); have n5_ := am (bkB (pk BKz21) hb); have n6_ := am (below_step (by repeat first | (with_reducible first | exact HB.out | apply ba | apply bn | apply bd | refine bs (by assumption) ?_) | exact HB.out) hb); clear HO_z11000; clear HO_z11001; clear HO_z22000; clear HO_z22001; clear BKz10; clear BKz21; clear HB; have HO_z11000 := n0_; have HO_z11001 := n1_; have HO_z22000 := n2_; have HO_z22001 := n3_; have BKz10 := n4_; have BKz21 := n5_; have HB := n6_; clear n0_ n1_ n2_ n3_ n4_ n5_ n6_; have pz24 : 0 ≤ (x14_1 : Int) := of_decide_eq_true (by first | (with_reducible assumption) | assumption); have qz24 : x14_1 < (l1.length : Int) := of_decide_eq_true (by first | (with_reducible assumption) | assumption); obtain ⟨adz24, ez24, hxz24_0, hxz24_1, hxz24_2⟩ := at_T67 HR1.out x14_1 pz24 qz24; obtain rfl : adz22 = adz24 := (by injection ez24); replace hxz24_0 := (HB.out.cell (World.block_lt_of_cell? w _ hxz24_0)).trans hxz24_0; replace hxz24_1 := (HB.out.cell (World.block_lt_of_cell? w _ hxz24_1)).trans hxz24_1; replace hxz24_2 := (HB.out.cell (World.block_lt_of_cell? w _ hxz24_2)).trans hxz24_2; replace pz24 := eq_true pz24; replace qz24 := eq_true qz24) | ((with_reducible refine gate_callee (f := 29) rfl ?_); refine goesL_ (some 67) rfl rfl Try.func29 (by kernel_rfl) rfl #[.int .i64 ((rd_T67 l1 x14_1).f1), .int .i64 3] rfl (by (try simp only [List.map_toArray, List.map_cons, List.map_nil]) <;> rfl) ?_; (with_reducible refine (columbariumlaw15_pick.calls ((rd_T67 l1 x14_1).f1) 3 tz25 _ A27.out).mono ?_); rintro e w' ⟨rfl, ⟨nd, rfl⟩⟩; refine ⟨_, rfl, ?_⟩; have hnb41 := NBz21_z10.out; have hnc41 := NBz10_z21.out; obtain ⟨hcz42_0, hcz42_1, hcz42_2, hcz42_3, hcz42_4⟩ := bc5 BKz21; obtain ⟨hfz42_0, hfz42_1, hfz42_2, hfz42_3, hfz42_4⟩ := bf5 BKz21; obtain ⟨Ao43, co43, eo43⟩ := Kd.R_slice HO_z22000.out; subst eo43; obtain ⟨Ao44, co44, eo44⟩ := Kd.R_slice HO_z22001.out; subst eo44) | ((with_reducible refine gate_callee (f := 37) rfl ?_); refine goesL_ (some 73) rfl rfl Try.func37 (by kernel_rfl) rfl #[.agg #[.slice Ao43 xz22000_1.length co43, .slice Ao44 xz22001_1.length co44, .int .i64 xz22002_1, .int .i64 xz22003_1, .int .i64 xz22004_1], .string tz23, .bool (tz25 == 0)] rfl (by (try simp only [List.map_toArray, List.map_cons, List.map_nil]) <;> rfl) ?_; (with_reducible refine (vault_Moves.calls _ _ xz22000_1 _ _ xz22001_1 xz22002_1 xz22003_1 xz22004_1 tz23 (tz25 == 0) tz26 tz29 _ ?side1 ?side2 ?side3 ?side4 A28.out).mono ?_); (case side1 => repeat (first | exact (Kd.R_reads' HO_z22000.out).2.2 | (with_reducible refine Kd.C_alloc ?_ _) | (with_reducible refine Kd.C_drewN ?_ _) | (with_reducible refine Kd.C_drew ?_))); (case side2 => exact (Kd.R_reads' HO_z22000.out).2.1); (case side3 => repeat (first | exact (Kd.R_reads' HO_z22001.out).2.2 | (with_reducible refine Kd.C_alloc ?_ _) | (with_reducible refine Kd.C_drewN ?_ _) | (with_reducible refine Kd.C_drew ?_))); (case side4 => exact (Kd.R_reads' HO_z22001.out).2.1); rintro e w45 ⟨vz27, rfl, ho0, hb⟩; refine ⟨_, rfl, ?_⟩; have n0_ := am (Kd.R_below (pr HO_z11000) hb); have n1_ := am (Kd.R_elder' (pr HO_z11001) (Kd.R_base ho0) hb); have n2_ := am (Kd.R_below (pr HO_z22000) hb); have n3_ := am (Kd.R_elder' (pr HO_z22001) (Kd.R_base ho0) hb); have n4_ := am (Kd.R_lower (Kd.R_new' (Kd.R_new' ho0 (Kd.R_lt (pr HO_z11001))) (Kd.R_lt (pr HO_z22001))) (below_size (by repeat first | (with_reducible first | exact HB.out | apply ba | apply bn | apply bd | refine bs (by assumption) ?_) | exact HB.out))); have n5_ := am (bkB (pk BKz10) hb); have n6_ := am (bkB (pk BKz21) hb); have n7_ := am (below_step (by repeat first | (with_reducible first | exact HB.out | apply ba | apply bn | apply bd | refine bs (by assumption) ?_) | exact HB.out) hb); clear HO_z11000; clear HO_z11001; clear HO_z22000; clear HO_z22001; clear BKz10; clear BKz21; clear HB; have HO_z11000 := n0_; have HO_z11001 := n1_; have HO_z22000 := n2_; have HO_z22001 := n3_; have HOz28 := n4_; have BKz10 := n5_; have BKz21 := n6_; have HB := n7_; clear n0_ n1_ n2_ n3_ n4_ n5_ n6_ n7_; (try clear ho0)))
 (try simp only [Act.put, List.setIfInBounds_toArray, List.set_cons_zero, List.set_cons_succ])
 go_cut [16, 19] (fun v16 v19 wc => ∃ (kq : Nat) (x19_38 : ByteArray), v16 = .bool (tz25 == 0) ∧ v19 = .string x19_38 ∧ Aside0 (columbariumlaw15_VaultCrashes.j2 kq l1 l2 tz1 x12_1 x13_1 x14_1 tz26 x19_38 xz22000_1 xz22001_1 xz22002_1 xz22003_1 xz22004_1 = some r) ∧ Aside0 (kq ≤ kj20) ∧ Aside0 (Kd.R k24 24 wc w.heap.size (fun k_ => some k_ ≠ ((.slice Ao14 tz6.length co14) : Value).ownBlock ∧ some k_ ≠ ((.slice Ao44 xz22001_1.length co44) : Value).ownBlock) vz27 tz26) ∧ Aside0 (Kd.R Kd.string 9 wc w.heap.size (fun k_ => some k_ ≠ ((.slice Ao43 xz22000_1.length co43) : Value).ownBlock) (.slice Ao12 tz3.length co12) tz3) ∧ Aside0 (Kd.R k24 24 wc w.heap.size (fun k_ => some k_ ≠ (vz27 : Value).ownBlock ∧ some k_ ≠ ((.slice Ao44 xz22001_1.length co44) : Value).ownBlock) (.slice Ao14 tz6.length co14) tz6) ∧ Aside0 (Kd.R Kd.string 9 wc w.heap.size (fun k_ => some k_ ≠ ((.slice Ao12 tz3.length co12) : Value).ownBlock) (.slice Ao43 xz22000_1.length co43) xz22000_1) ∧ Aside0 (Kd.R k24 24 wc w.heap.size (fun k_ => some k_ ≠ (vz27 : Value).ownBlock ∧ some k_ ≠ ((.slice Ao14 tz6.length co14) : Value).ownBlock) (.slice Ao44 xz22001_1.length co44) xz22001_1) ∧ Aside0 (wc.heap[gbz10]? = some (.cells #[(.slice Ao12 tz3.length co12), (.slice Ao14 tz6.length co14)] 30 (0, 0))) ∧ Aside0 (wc.heap[gbz21]? = some (.cells #[(.slice Ao43 xz22000_1.length co43), (.slice Ao44 xz22001_1.length co44), .int .i64 xz22002_1, .int .i64 xz22003_1, .int .i64 xz22004_1] 56 (0, 0))) ∧ Aside0 (Below w.heap.size w wc))
 case first =>
  have H := HC39.out
  clear HC39
  by_cases c46 : tz25 = 0
  ·rw [if_pos c46] at H
   have c46b0 : (tz25 == 0) = true := beq_iff_eq.mpr c46
   have c46b1 : (tz25 != 0) = false := bne_eq_false_iff_eq.mpr c46
   clear c46
   (first | rw [c46b0] | rw [c46b1] | (simp only [i64_w, i32_w]; rw [c46b0]) | skip)
   have H' := am H
   clear H
   go_wp2
   go_meet
   case rel => exact ⟨_, (tz23), (by first | rfl | (rw [c46b0])), (by first | rfl | (simp; done) | (simp [*]; done)), H', ⟨by have := HK1.out; have := HJ20.out; first | omega | exact Nat.le_refl _⟩, ⟨by (with_reducible repeat first | apply ra | apply rn | apply rd); exact Kd.R_mono HOz28.out (fun _ hk => ⟨hk.1.2, hk.2⟩)⟩, ⟨by (with_reducible repeat first | apply ra | apply rn | apply rd); exact HO_z11000.out⟩, ⟨by (with_reducible repeat first | apply ra | apply rn | apply rd); exact Kd.R_mono HO_z11001.out (fun _ hk => ⟨hk.2, hk.1⟩)⟩, ⟨by (with_reducible repeat first | apply ra | apply rn | apply rd); exact HO_z22000.out⟩, ⟨by (with_reducible repeat first | apply ra | apply rn | apply rd); exact Kd.R_mono HO_z22001.out (fun _ hk => ⟨hk.2, hk.1⟩)⟩, ⟨by (with_reducible repeat (first | refine blk_drewN ?_ _ | refine bkD ?_ | refine bkA ?_ _)); exact BKz10.out⟩, ⟨by (with_reducible repeat (first | refine blk_drewN ?_ _ | refine bkD ?_ | refine bkA ?_ _)); exact BKz21.out⟩, ⟨by repeat first | (with_reducible first | exact HB.out | apply ba | apply bn | apply bd | refine bs (by assumption) ?_) | exact HB.out⟩⟩
  rw [if_neg c46] at H
  have c46b0 : (tz25 == 0) = false := beq_eq_false_iff_ne.mpr c46
  have c46b1 : (tz25 != 0) = true := bne_iff_ne.mpr c46
  (first | rw [c46b0] | rw [c46b1] | (simp only [i64_w, i32_w]; rw [c46b0]) | skip)
  have H' := am H
  clear H
  go_wp2
  go_meet
  case rel => exact ⟨_, (sx38), (by first | rfl | (rw [c46b0])), (by first | rfl | (simp; done) | (simp only [← hsx38] <;> (first | rfl | simp)) | (simp [*]; done)), H', ⟨by have := HK1.out; have := HJ20.out; first | omega | exact Nat.le_refl _⟩, ⟨by (with_reducible repeat first | apply ra | apply rn | apply rd); exact Kd.R_mono HOz28.out (fun _ hk => ⟨hk.1.2, hk.2⟩)⟩, ⟨by (with_reducible repeat first | apply ra | apply rn | apply rd); exact HO_z11000.out⟩, ⟨by (with_reducible repeat first | apply ra | apply rn | apply rd); exact Kd.R_mono HO_z11001.out (fun _ hk => ⟨hk.2, hk.1⟩)⟩, ⟨by (with_reducible repeat first | apply ra | apply rn | apply rd); exact HO_z22000.out⟩, ⟨by (with_reducible repeat first | apply ra | apply rn | apply rd); exact Kd.R_mono HO_z22001.out (fun _ hk => ⟨hk.2, hk.1⟩)⟩, ⟨by (with_reducible repeat (first | refine blk_drewN ?_ _ | refine bkD ?_ | refine bkA ?_ _)); exact BKz10.out⟩, ⟨by (with_reducible repeat (first | refine blk_drewN ?_ _ | refine bkD ?_ | refine bkA ?_ _)); exact BKz21.out⟩, ⟨by repeat first | (with_reducible first | exact HB.out | apply ba | apply bn | apply bd | refine bs (by assumption) ?_) | exact HB.out⟩⟩
 clear HC39
 try clear c1
 try clear c2
 try clear p2
 try clear c3
 try clear c4
 try clear p6
 try clear c8
 try clear c8b0
 try clear c8b1
 try clear c9
 try clear p9
 try clear q9
 try clear hx9
 try clear c14
 try clear c18
 try clear c22
 try clear c22b0
 try clear c22b1
 try clear c23
 try clear c24
 try clear c24b0
 try clear c25
 try clear c25b0
 try clear c28
 try clear c29
 try clear c29b0
 try clear c29b1
 try clear c30
 try clear c31
 try clear c32
 try clear c36
 try clear c36b0
 try clear c36b1
 try clear c37
 try clear c37b0
 try clear c37b1
 try clear c37b2
 try clear c41
 try clear c46
 try clear c46b0
 try clear c46b1
 try clear hcz13_0
 try clear hcz13_1
 try clear hcz19_0
 try clear hcz19_1
 try clear hcz19_2
 try clear hcz19_3
 try clear hcz19_4
 try clear hcz32_0
 try clear hcz32_1
 try clear hcz32_2
 try clear hcz32_3
 try clear hcz32_4
 try clear hcz42_0
 try clear hcz42_1
 try clear hcz42_2
 try clear hcz42_3
 try clear hcz42_4
 try clear hfz13_0
 try clear hfz13_1
 try clear hfz19_0
 try clear hfz19_1
 try clear hfz19_2
 try clear hfz19_3
 try clear hfz19_4
 try clear hfz32_0
 try clear hfz32_1
 try clear hfz32_2
 try clear hfz32_3
 try clear hfz32_4
 try clear hfz42_0
 try clear hfz42_1
 try clear hfz42_2
 try clear hfz42_3
 try clear hfz42_4
 try clear hxz22_0
 try clear hxz22_1
 try clear hxz22_2
 try clear hxz24_0
 try clear hxz24_1
 try clear hxz24_2
 try clear p2
 try clear p6
 try clear pz22
 try clear pz24
 try clear qz22
 try clear qz24
 obtain ⟨kq, x19_38, rfl, rfl, HA, HJ38, HO_17, HO_z11000, HO_z11001, HO_z22000, HO_z22001, BKz10, BKz21, HB⟩ := hcut
 cases kq with
 | zero => exact absurd HA.out (by simp [columbariumlaw15_VaultCrashes.j2])
 | succ kj38 => ?_
 have H := HA.out
 clear HA
 simp only [columbariumlaw15_VaultCrashes.j2] at H
 by_cases c47 : 0 ≤ x14_1
 rotate_left
 ·rw [if_neg c47] at H
  exact absurd H (by simp)
 rw [if_pos c47] at H
 have c47b0 : decide (0 ≤ x14_1) = true := decide_eq_true c47
 clear c47
 by_cases c48 : x14_1 < (l1.length : Int)
 rotate_left
 ·rw [if_neg c48] at H
  exact absurd H (by simp)
 rw [if_pos c48] at H
 have c48b0 : decide (x14_1 < (l1.length : Int)) = true := decide_eq_true c48
 clear c48
 replace H := ob_ H
 obtain ⟨tz31, A490, H⟩ := H
 replace H : (if 0 ≤ tz31 then (if tz31 ≤ (tz26.length : Int) then ((columbariumref14_Do.f kj38 xz22000_1 xz22001_1 (tz26.take (tz31 : Int).toNat)).bind fun btz36 => (columbariumlaw15_VaultCrashes.l1 kj38 l1 l2 tz1 x12_1 x13_1 x14_1 tz26 x19_38 tz31 btz36.2.2 ([] : List Int) 0 btz36.1 btz36.2.1)) else (none)) else (none)) = some r := H
 have A49 := Aside0.mk A490
 clear A490
 by_cases c50 : 0 ≤ tz31
 rotate_left
 ·rw [if_neg c50] at H
  exact absurd H (by simp)
 rw [if_pos c50] at H
 have c50b0 := eq_true c50
 have c50b1 : decide (0 ≤ tz31) = true := decide_eq_true c50
 clear c50
 by_cases c51 : tz31 ≤ (tz26.length : Int)
 rotate_left
 ·rw [if_neg c51] at H
  exact absurd H (by simp)
 rw [if_pos c51] at H
 have c51b0 := eq_true c51
 have c51b1 : decide (tz31 ≤ (tz26.length : Int)) = true := decide_eq_true c51
 clear c51
 obtain ⟨yz32, hyz32⟩ : ∃ y_ : List (S24), y_ = (tz26.take (tz31 : Int).toNat) := ⟨_, rfl⟩
 replace H : ((columbariumref14_Do.f kj38 xz22000_1 xz22001_1 yz32).bind fun btz36 => (columbariumlaw15_VaultCrashes.l1 kj38 l1 l2 tz1 x12_1 x13_1 x14_1 tz26 x19_38 tz31 btz36.2.2 ([] : List Int) 0 btz36.1 btz36.2.1)) = some r := by first | (rw [hyz32]; with_reducible exact H) | (have H2_ := (Option.bind_some _ _).symm.trans H; rw [hyz32]; with_reducible exact H2_) | (have H2_ := (Option.bind_some _ _).symm.trans H; with_reducible exact H2_) | with_reducible exact H | (rw [hyz32]; exact H) | exact H
 have Nyz32 := am hyz32
 clear hyz32
 replace H := ob_ H
 obtain ⟨⟨tz36, tz39, tz42⟩, A520, H⟩ := H
 replace H : (columbariumlaw15_VaultCrashes.l1 kj38 l1 l2 tz1 x12_1 x13_1 x14_1 tz26 x19_38 tz31 tz42 ([] : List Int) 0 tz36 tz39) = some r := H
 have A52 := Aside0.mk A520
 clear A520
 have H' := am H
 clear H
 have pz30 : 0 ≤ (x14_1 : Int) := of_decide_eq_true (by first | (with_reducible assumption) | assumption)
 have qz30 : x14_1 < (l1.length : Int) := of_decide_eq_true (by first | (with_reducible assumption) | assumption)
 obtain ⟨adz30, ez30, hxz30_0, hxz30_1, hxz30_2⟩ := at_T67 HR1.out x14_1 pz30 qz30
 obtain rfl : adz22 = adz30 := (by injection ez30)
 replace hxz30_0 := (HB.out.cell (World.block_lt_of_cell? w _ hxz30_0)).trans hxz30_0
 replace hxz30_1 := (HB.out.cell (World.block_lt_of_cell? w _ hxz30_1)).trans hxz30_1
 replace hxz30_2 := (HB.out.cell (World.block_lt_of_cell? w _ hxz30_2)).trans hxz30_2
 replace pz30 := eq_true pz30
 replace qz30 := eq_true qz30
 obtain ⟨Ao53, co53, eo53⟩ := Kd.R_slice HO_17.out
 subst eo53
 try go_wp2_with (first | ((with_reducible refine gate_callee (f := 29) rfl ?_); refine goesL_ (some 93) rfl rfl Try.func29 (by kernel_rfl) rfl #[.int .i64 ((rd_T67 l1 x14_1).f2), .int .i64 (wrap64 ((tz26.length : Int) + 1))] rfl (by (try simp only [List.map_toArray, List.map_cons, List.map_nil]) <;> rfl) ?_; (with_reducible refine (columbariumlaw15_pick.calls ((rd_T67 l1 x14_1).f2) (wrap64 ((tz26.length : Int) + 1)) tz31 _ A49.out).mono ?_); rintro e w' ⟨rfl, ⟨nd, rfl⟩⟩; refine ⟨_, rfl, ?_⟩; (try (rw [drewN_self wc]; generalize hq_ : World.drewN wc _ = wc; have n0_ : Aside0 (Kd.R k24 24 wc w.heap.size (fun k_ => some k_ ≠ (.slice Ao14 tz6.length co14 : Value).ownBlock ∧ some k_ ≠ (.slice Ao44 xz22001_1.length co44 : Value).ownBlock) (.slice Ao53 tz26.length co53) tz26) := ⟨by rw [← hq_]; exact (pr HO_17)⟩; have n1_ : Aside0 (Kd.R Kd.string 9 wc w.heap.size (fun k_ => some k_ ≠ (.slice Ao43 xz22000_1.length co43 : Value).ownBlock) (.slice Ao12 tz3.length co12) tz3) := ⟨by rw [← hq_]; exact (pr HO_z11000)⟩; have n2_ : Aside0 (Kd.R k24 24 wc w.heap.size (fun k_ => some k_ ≠ (.slice Ao53 tz26.length co53 : Value).ownBlock ∧ some k_ ≠ (.slice Ao44 xz22001_1.length co44 : Value).ownBlock) (.slice Ao14 tz6.length co14) tz6) := ⟨by rw [← hq_]; exact (pr HO_z11001)⟩; have n3_ : Aside0 (Kd.R Kd.string 9 wc w.heap.size (fun k_ => some k_ ≠ (.slice Ao12 tz3.length co12 : Value).ownBlock) (.slice Ao43 xz22000_1.length co43) xz22000_1) := ⟨by rw [← hq_]; exact (pr HO_z22000)⟩; have n4_ : Aside0 (Kd.R k24 24 wc w.heap.size (fun k_ => some k_ ≠ (.slice Ao53 tz26.length co53 : Value).ownBlock ∧ some k_ ≠ (.slice Ao14 tz6.length co14 : Value).ownBlock) (.slice Ao44 xz22001_1.length co44) xz22001_1) := ⟨by rw [← hq_]; exact (pr HO_z22001)⟩; have n5_ : Aside0 (wc.heap[gbz10]? = some (.cells #[.slice Ao12 tz3.length co12, .slice Ao14 tz6.length co14] 30 (0, 0))) := ⟨by rw [← hq_]; exact (pk BKz10)⟩; have n6_ : Aside0 (wc.heap[gbz21]? = some (.cells #[.slice Ao43 xz22000_1.length co43, .slice Ao44 xz22001_1.length co44, .int .i64 xz22002_1, .int .i64 xz22003_1, .int .i64 xz22004_1] 56 (0, 0))) := ⟨by rw [← hq_]; exact (pk BKz21)⟩; have n7_ : Aside0 (Below w.heap.size w wc) := ⟨by rw [← hq_]; exact (by repeat first | (with_reducible first | exact HB.out | apply ba | apply bn | apply bd | refine bs (by assumption) ?_) | exact HB.out)⟩; clear HO_17 HO_z11000 HO_z11001 HO_z22000 HO_z22001 BKz10 BKz21 HB hq_; have HO_17 := n0_; have HO_z11000 := n1_; have HO_z11001 := n2_; have HO_z22000 := n3_; have HO_z22001 := n4_; have BKz10 := n5_; have BKz21 := n6_; have HB := n7_; clear n0_ n1_ n2_ n3_ n4_ n5_ n6_ n7_))))
 have n0_ := am (Kd.R_drew HO_17.out)
 have n1_ := am (Kd.R_drew HO_z11000.out)
 have n2_ := am (Kd.R_drew HO_z11001.out)
 have n3_ := am (Kd.R_drew HO_z22000.out)
 have n4_ := am (Kd.R_drew HO_z22001.out)
 have n5_ := am (bkD BKz10.out)
 have n6_ := am (bkD BKz21.out)
 have n7_ := am (below_drew1 HB.out)
 clear HO_17 HO_z11000 HO_z11001 HO_z22000 HO_z22001 BKz10 BKz21 HB; have HO_17 := n0_; have HO_z11000 := n1_; have HO_z11001 := n2_; have HO_z22000 := n3_; have HO_z22001 := n4_; have BKz10 := n5_; have BKz21 := n6_; have HB := n7_; clear n0_ n1_ n2_ n3_ n4_ n5_ n6_ n7_
 have q55 : (tz31 : Int) ≤ ((tz26.length : Int) : Int) := of_decide_eq_true (by first | (with_reducible assumption) | assumption)
 obtain ⟨i055, hi055, _, hsz55, _⟩ := info_parts info24
 have hroom55 : tz26.length ≤ co53 := (Kd.R_reads' HO_17.out).2.1
 have hC55 : Kd.C k24 _ Ao53 tz26.length tz26 := (Kd.R_reads' HO_17.out).2.2
 have hcut55 := cut_to (P := Try.prog) 28 24 .i64 Try.underlying28 hi055 Ao53 tz26.length co53 tz31 (of_decide_eq_true (by first | (with_reducible assumption) | assumption)) q55 hroom55
 have hr55 := Kd.C_take (m := (tz31 : Int).toNat) hC55 (by omega)
 have hy55 : yz32.length = (tz31 : Int).toNat := (by rw [Nyz32.out, List.length_take]; omega)
 rw [← Nyz32.out] at hr55
 rw [← hy55] at hcut55
 have HRz35 := am hr55
 have HCz35 := am (show yz32.length ≤ co53 from by omega)
 clear hr55 hC55 hroom55 hi055 hsz55
 have KY55 := am hy55
 clear hy55
 have KL55 := am (show (tz31 : Int).toNat ≤ tz26.length from by omega)
 replace q55 := eq_true q55
 refine start_ (n := 12) (S := fun w' => w'.cell? ⟨gbz21, 0, none⟩ = some (.slice Ao43 xz22000_1.length co43) ∧ w'.cell? ⟨gbz21, 1, none⟩ = some (.slice Ao44 xz22001_1.length co44) ∧ w'.cell? ⟨gbz21, 2, none⟩ = some (.int .i64 xz22002_1) ∧ w'.cell? ⟨gbz21, 3, none⟩ = some (.int .i64 xz22003_1) ∧ w'.cell? ⟨gbz21, 4, none⟩ = some (.int .i64 xz22004_1)) (ds := []) #[false, false, false, false, false, false, false, false, false, false, false, false] (by kernel_rfl) rfl rfl (bc5 BKz21) (fun hHeld => ?_); refine with_tabW columbariumlaw15_VaultCrashes.tab21 columbariumlaw15_VaultCrashes.bits21 (fun HT_ HW_ => ?_)
 generalize wc.drew = w54 at HO_17 HO_z11000 HO_z11001 HO_z22000 HO_z22001 BKz10 BKz21 HB HRz35 hHeld ⊢
 refine pu_ 0 (some 95) HT_ rfl rfl (.inl ⟨by rfl, by intro w'; go_simp; with_reducible rfl⟩) (by simp only [Act.put, sa_, s0_, s1_, i64_w, i32_w]; rfl) ?_
 refine pu_ 2 (some 97) HT_ rfl rfl (.inl ⟨by rfl, by intro w'; go_simp; with_reducible rfl⟩) (by simp only [Act.put, sa_, s0_, s1_, i64_w, i32_w]; rfl) ?_
 refine pu_ 3 (some 98) HT_ rfl rfl (.inl ⟨by rfl, by intro w'; go_simp; with_reducible rfl⟩) (by simp only [Act.put, sa_, s0_, s1_, i64_w, i32_w]; rfl) ?_
 refine pu_ 4 (some 99) HT_ rfl rfl (.inl ⟨by rfl, by intro w'; go_simp; with_reducible rfl⟩) (by simp only [Act.put, sa_, s0_, s1_, i64_w, i32_w]; rfl) ?_
 refine tk_ 1 (some 96) HT_ HW_ rfl rfl (.inl ⟨by rfl, by rintro w' ⟨s0, s1, s2, s3, s4⟩; go_simp; with_reducible rfl⟩) hHeld (by simp only [Act.put, sa_, s0_, s1_, i64_w, i32_w]; rfl) ?_
 refine join_ (σ := Value × Value × Nat) 2 #[true, true, true, true, true, true, true, true, true, true, false, false] (fun s_ => [(100, .tuple #[.agg #[s_.1, s_.2.1], .int .i64 tz42]), (21, .pointer (some ⟨s_.2.2, 0, none⟩)), (94, .tuple #[.agg #[s_.1, s_.2.1], .int .i64 tz42]), (101, .agg #[s_.1, s_.2.1]), (102, .int .i64 tz42)]) (fun s_ w' => (w'.cell? ⟨gbz21, 0, none⟩ = some (.slice Ao43 xz22000_1.length co43) ∧ w'.cell? ⟨gbz21, 1, none⟩ = some (.slice Ao44 xz22001_1.length co44) ∧ w'.cell? ⟨gbz21, 2, none⟩ = some (.int .i64 xz22002_1) ∧ w'.cell? ⟨gbz21, 3, none⟩ = some (.int .i64 xz22003_1) ∧ w'.cell? ⟨gbz21, 4, none⟩ = some (.int .i64 xz22004_1)) ∧ (Kd.R Kd.string 9 w' w.heap.size (fun k_ => some k_ ≠ (.slice Ao12 tz3.length co12 : Value).ownBlock ∧ some k_ ≠ (.slice Ao43 xz22000_1.length co43 : Value).ownBlock) s_.1 tz36) ∧ (Kd.R k24 24 w' w.heap.size (fun k_ => some k_ ≠ (.slice Ao53 tz26.length co53 : Value).ownBlock ∧ some k_ ≠ (.slice Ao14 tz6.length co14 : Value).ownBlock ∧ some k_ ≠ (.slice Ao44 xz22001_1.length co44 : Value).ownBlock) s_.2.1 tz39) ∧ (Kd.R k24 24 w' w.heap.size (fun k_ => some k_ ≠ (s_.2.1 : Value).ownBlock ∧ some k_ ≠ (.slice Ao14 tz6.length co14 : Value).ownBlock ∧ some k_ ≠ (.slice Ao44 xz22001_1.length co44 : Value).ownBlock) (.slice Ao53 tz26.length co53) tz26) ∧ (Kd.R Kd.string 9 w' w.heap.size (fun k_ => some k_ ≠ (s_.1 : Value).ownBlock ∧ some k_ ≠ (.slice Ao43 xz22000_1.length co43 : Value).ownBlock) (.slice Ao12 tz3.length co12) tz3) ∧ (Kd.R k24 24 w' w.heap.size (fun k_ => some k_ ≠ (s_.2.1 : Value).ownBlock ∧ some k_ ≠ (.slice Ao53 tz26.length co53 : Value).ownBlock ∧ some k_ ≠ (.slice Ao44 xz22001_1.length co44 : Value).ownBlock) (.slice Ao14 tz6.length co14) tz6) ∧ (Kd.R Kd.string 9 w' w.heap.size (fun k_ => some k_ ≠ (s_.1 : Value).ownBlock ∧ some k_ ≠ (.slice Ao12 tz3.length co12 : Value).ownBlock) (.slice Ao43 xz22000_1.length co43) xz22000_1) ∧ (Kd.R k24 24 w' w.heap.size (fun k_ => some k_ ≠ (s_.2.1 : Value).ownBlock ∧ some k_ ≠ (.slice Ao53 tz26.length co53 : Value).ownBlock ∧ some k_ ≠ (.slice Ao14 tz6.length co14 : Value).ownBlock) (.slice Ao44 xz22001_1.length co44) xz22001_1) ∧ (w'.heap[gbz10]? = some (.cells #[.slice Ao12 tz3.length co12, .slice Ao14 tz6.length co14] 30 (0, 0))) ∧ (w'.heap[gbz21]? = some (.cells #[.slice Ao43 xz22000_1.length co43, .slice Ao44 xz22001_1.length co44, .int .i64 xz22002_1, .int .i64 xz22003_1, .int .i64 xz22004_1] 56 (0, 0))) ∧ (w'.heap[s_.2.2]? = some (.cells #[.slice none 0 0, .slice none 0 0] 30 (0, 0))) ∧ (w.heap.size ≤ s_.2.2) ∧ (w.heap.size ≤ s_.2.2) ∧ (gbz10 ≠ s_.2.2) ∧ (s_.2.2 ≠ gbz10) ∧ (gbz21 ≠ s_.2.2) ∧ (s_.2.2 ≠ gbz21) ∧ (Below w.heap.size w w')) ?_ ?_
 rotate_left
 ·intro hCont
  refine two_ (i := 5) (j := 9) (Ni := some 100) (Nj := some 21) #[true, true, true, true, true, true, false, false, false, false, false, false] #[true, true, true, true, true, false, false, false, false, true, false, false] rfl rfl rfl rfl (two_of HT_.out (by kernel_rfl)) (by decide) (by decide) (fun K hK => ?_) (fun K hK => ?_)
  ·skip
   refine goes_ Try.func17 (by kernel_rfl) rfl #[.agg #[.slice Ao43 xz22000_1.length co43, .slice Ao44 xz22001_1.length co44], .slice Ao53 yz32.length co53] (by rfl) rfl rfl (by (try simp only [List.map_toArray, List.map_cons, List.map_nil]) <;> rfl) ?_
   with_reducible refine (columbariumref14_Do.calls kj38 _ _ xz22000_1 _ _ xz22001_1 _ _ yz32 tz36 tz39 tz42 _ ?side1 ?side2 ?side3 ?side4 ?side5 ?side6 A52.out).mono ?_
   (case side1 => repeat (first | exact (Kd.R_reads' HO_z22000.out).2.2 | (with_reducible refine Kd.C_alloc ?_ _) | (with_reducible refine Kd.C_drewN ?_ _) | (with_reducible refine Kd.C_drew ?_)))
   (case side2 => exact (Kd.R_reads' HO_z22000.out).2.1)
   (case side3 => repeat (first | exact (Kd.R_reads' HO_z22001.out).2.2 | (with_reducible refine Kd.C_alloc ?_ _) | (with_reducible refine Kd.C_drewN ?_ _) | (with_reducible refine Kd.C_drew ?_)))
   (case side4 => exact (Kd.R_reads' HO_z22001.out).2.1)
   (case side5 => repeat (first | exact (by repeat (first | (with_reducible exact HRz35.out) | (with_reducible refine Kd.C_alloc ?_ _) | (with_reducible refine Kd.C_drewN ?_ _) | (with_reducible refine Kd.C_drew ?_) | exact HRz35.out)) | (with_reducible refine Kd.C_alloc ?_ _) | (with_reducible refine Kd.C_drewN ?_ _) | (with_reducible refine Kd.C_drew ?_)))
   (case side6 => exact HCz35.out)
   rintro e w56 ⟨vz37, vz40, rfl, ho0, ho1, hb⟩
   refine ⟨_, rfl, ?_⟩
   have n0_ := am (Kd.R_elder' (pr HO_17) (Kd.R_base ho1) hb)
   have n1_ := am (Kd.R_elder' (pr HO_z11000) (Kd.R_base ho0) hb)
   have n2_ := am (Kd.R_elder' (pr HO_z11001) (Kd.R_base ho1) hb)
   have n3_ := am (Kd.R_elder' (pr HO_z22000) (Kd.R_base ho0) hb)
   have n4_ := am (Kd.R_elder' (pr HO_z22001) (Kd.R_base ho1) hb)
   have n5_ := am (Kd.R_lower (Kd.R_new' (Kd.R_new' ho0 (Kd.R_lt (pr HO_z11000))) (Kd.R_lt (pr HO_z22000))) (below_size (by repeat first | (with_reducible first | exact HB.out | apply ba | apply bn | apply bd | refine bs (by assumption) ?_) | exact HB.out)))
   have n6_ := am (Kd.R_lower (Kd.R_new' (Kd.R_new' (Kd.R_new' ho1 (Kd.R_lt (pr HO_17))) (Kd.R_lt (pr HO_z11001))) (Kd.R_lt (pr HO_z22001))) (below_size (by repeat first | (with_reducible first | exact HB.out | apply ba | apply bn | apply bd | refine bs (by assumption) ?_) | exact HB.out)))
   have n7_ := am (bkB (pk BKz10) hb)
   have n8_ := am (bkB (pk BKz21) hb)
   have n9_ := am (Kd.C_below (by repeat (first | (with_reducible exact HRz35.out) | (with_reducible refine Kd.C_alloc ?_ _) | (with_reducible refine Kd.C_drewN ?_ _) | (with_reducible refine Kd.C_drew ?_) | exact HRz35.out)) hb)
   have n10_ := am (below_step (by repeat first | (with_reducible first | exact HB.out | apply ba | apply bn | apply bd | refine bs (by assumption) ?_) | exact HB.out) hb)
   clear HO_17 HO_z11000 HO_z11001 HO_z22000 HO_z22001 BKz10 BKz21 HRz35 HB; have HO_17 := n0_; have HO_z11000 := n1_; have HO_z11001 := n2_; have HO_z22000 := n3_; have HO_z22001 := n4_; have HOz38 := n5_; have HOz41 := n6_; have BKz10 := n7_; have BKz21 := n8_; have HRz35 := n9_; have HB := n10_; clear n0_ n1_ n2_ n3_ n4_ n5_ n6_ n7_ n8_ n9_ n10_; refine hK.out _ _ (bc5 BKz21) (fun hHeld => ?_)
   clear hK K
   refine norm_ (by show Act.put _ (some 100) _ = _; simp only [Act.put, sa_, s0_, s1_, i64_w, i32_w]; rfl) ?_
   refine pu_ 6 (some 94) HT_ rfl rfl (.inl ⟨by rfl, by intro w'; go_simp; with_reducible rfl⟩) (by simp only [Act.put, sa_, s0_, s1_, i64_w, i32_w]; rfl) ?_
   refine pu_ 7 (some 101) HT_ rfl rfl (.inl ⟨by rfl, by intro w'; go_simp; with_reducible rfl⟩) (by simp only [Act.put, sa_, s0_, s1_, i64_w, i32_w]; rfl) ?_
   refine pu_ 8 (some 102) HT_ rfl rfl (.inl ⟨by rfl, by intro w'; go_simp; with_reducible rfl⟩) (by simp only [Act.put, sa_, s0_, s1_, i64_w, i32_w]; rfl) ?_
   refine on_ 9 (some 21) HT_ rfl rfl (fun K hK => ?_)
   refine box_step ?hg (N := 21) ?hd (cs := #[.slice none 0 0, .slice none 0 0]) (t := 30) ?hr ?_; (case hd => rfl); (case hg => rfl); (case hr => first | (go_simp; done) | (go_simp; rfl))
   intro gbz43 hg w57 hbox hb
   have n0_ := am (Kd.R_below (pr HO_17) hb)
   have n1_ := am (Kd.R_below (pr HO_z11000) hb)
   have n2_ := am (Kd.R_below (pr HO_z11001) hb)
   have n3_ := am (Kd.R_below (pr HO_z22000) hb)
   have n4_ := am (Kd.R_below (pr HO_z22001) hb)
   have n5_ := am (Kd.R_below (pr HOz38) hb)
   have n6_ := am (Kd.R_below (pr HOz41) hb)
   have n7_ := am (bkB (pk BKz10) hb)
   have n8_ := am (bkB (pk BKz21) hb)
   have n9_ := am (Kd.C_below (by repeat (first | (with_reducible exact HRz35.out) | (with_reducible refine Kd.C_alloc ?_ _) | (with_reducible refine Kd.C_drewN ?_ _) | (with_reducible refine Kd.C_drew ?_) | exact HRz35.out)) hb)
   have n10_ := am (below_step (by repeat first | (with_reducible first | exact HB.out | apply ba | apply bn | apply bd | refine bs (by assumption) ?_) | exact HB.out) hb)
   have n11_ := am (hbox)
   have n12_ := ge_ hg (by repeat first | (with_reducible first | exact HB.out | apply ba | apply bn | apply bd | refine bs (by assumption) ?_) | exact HB.out)
   have n13_ := ge_ hg (by repeat first | (with_reducible first | exact HB.out | apply ba | apply bn | apply bd | refine bs (by assumption) ?_) | exact HB.out)
   have n14_ := nl_ hg BKz10
   have n15_ := ng_ hg BKz10
   have n16_ := nl_ hg BKz21
   have n17_ := ng_ hg BKz21
   clear HO_17 HO_z11000 HO_z11001 HO_z22000 HO_z22001 HOz38 HOz41 BKz10 BKz21 HRz35 HB; have HO_17 := n0_; have HO_z11000 := n1_; have HO_z11001 := n2_; have HO_z22000 := n3_; have HO_z22001 := n4_; have HOz38 := n5_; have HOz41 := n6_; have BKz10 := n7_; have BKz21 := n8_; have HRz35 := n9_; have HB := n10_; have BKz43 := n11_; have GWz43 := n12_; have GEz43 := n13_; have NBz10_z43 := n14_; have NBz43_z10 := n15_; have NBz21_z43 := n16_; have NBz43_z21 := n17_; clear n0_ n1_ n2_ n3_ n4_ n5_ n6_ n7_ n8_ n9_ n10_ n11_ n12_ n13_ n14_ n15_ n16_ n17_; clear hb hbox hg
   refine hK.out _ _ (bc5 BKz21) (fun hHeld => ?_)
   clear hK K
   refine norm_ (by show Act.put _ (some 21) _ = _; simp only [Act.put, sa_, s0_, s1_, i64_w, i32_w]; rfl) ?_
   exact norm_ (by simp only [putAll, Act.put, List.setIfInBounds_toArray, List.set_cons_zero, List.set_cons_succ]) (hCont (vz37, vz40, gbz43) _ ⟨hHeld, (pm HOz38 (fun _ hk => ⟨hk.1.2, hk.2⟩)), (pm HOz41 (fun _ hk => ⟨hk.1.1.2, ⟨hk.1.2, hk.2⟩⟩)), (pm HO_17 (fun _ hk => ⟨hk.2, ⟨hk.1.1, hk.1.2⟩⟩)), (pm HO_z11000 (fun _ hk => ⟨hk.2, hk.1⟩)), (pm HO_z11001 (fun _ hk => ⟨hk.2, ⟨hk.1.1, hk.1.2⟩⟩)), (pm HO_z22000 (fun _ hk => ⟨hk.2, hk.1⟩)), (pm HO_z22001 (fun _ hk => ⟨hk.2, ⟨hk.1.1, hk.1.2⟩⟩)), (pk BKz10), (pk BKz21), (pk BKz43), GWz43.out, GEz43.out, NBz10_z43.out, NBz43_z10.out, NBz21_z43.out, NBz43_z21.out, (by repeat first | (with_reducible first | exact HB.out | apply ba | apply bn | apply bd | refine bs (by assumption) ?_) | exact HB.out)⟩)
  skip
  refine box_step ?hg (N := 21) ?hd (cs := #[.slice none 0 0, .slice none 0 0]) (t := 30) ?hr ?_; (case hd => rfl); (case hg => rfl); (case hr => first | (go_simp; done) | (go_simp; rfl))
  intro gbz43 hg w56 hbox hb
  have n0_ := am (Kd.R_below (pr HO_17) hb)
  have n1_ := am (Kd.R_below (pr HO_z11000) hb)
  have n2_ := am (Kd.R_below (pr HO_z11001) hb)
  have n3_ := am (Kd.R_below (pr HO_z22000) hb)
  have n4_ := am (Kd.R_below (pr HO_z22001) hb)
  have n5_ := am (bkB (pk BKz10) hb)
  have n6_ := am (bkB (pk BKz21) hb)
  have n7_ := am (Kd.C_below (by repeat (first | (with_reducible exact HRz35.out) | (with_reducible refine Kd.C_alloc ?_ _) | (with_reducible refine Kd.C_drewN ?_ _) | (with_reducible refine Kd.C_drew ?_) | exact HRz35.out)) hb)
  have n8_ := am (below_step (by repeat first | (with_reducible first | exact HB.out | apply ba | apply bn | apply bd | refine bs (by assumption) ?_) | exact HB.out) hb)
  have n9_ := am (hbox)
  have n10_ := ge_ hg (by repeat first | (with_reducible first | exact HB.out | apply ba | apply bn | apply bd | refine bs (by assumption) ?_) | exact HB.out)
  have n11_ := ge_ hg (by repeat first | (with_reducible first | exact HB.out | apply ba | apply bn | apply bd | refine bs (by assumption) ?_) | exact HB.out)
  have n12_ := nl_ hg BKz10
  have n13_ := ng_ hg BKz10
  have n14_ := nl_ hg BKz21
  have n15_ := ng_ hg BKz21
  clear HO_17 HO_z11000 HO_z11001 HO_z22000 HO_z22001 BKz10 BKz21 HRz35 HB; have HO_17 := n0_; have HO_z11000 := n1_; have HO_z11001 := n2_; have HO_z22000 := n3_; have HO_z22001 := n4_; have BKz10 := n5_; have BKz21 := n6_; have HRz35 := n7_; have HB := n8_; have BKz43 := n9_; have GWz43 := n10_; have GEz43 := n11_; have NBz10_z43 := n12_; have NBz43_z10 := n13_; have NBz21_z43 := n14_; have NBz43_z21 := n15_; clear n0_ n1_ n2_ n3_ n4_ n5_ n6_ n7_ n8_ n9_ n10_ n11_ n12_ n13_ n14_ n15_; clear hb hbox hg
  refine hK.out _ _ (bc5 BKz21) (fun hHeld => ?_)
  clear hK K
  refine norm_ (by show Act.put _ (some 21) _ = _; simp only [Act.put, sa_, s0_, s1_, i64_w, i32_w]; rfl) ?_
  refine on_ 5 (some 100) HT_ rfl rfl (fun K hK => ?_)
  refine goes_ Try.func17 (by kernel_rfl) rfl #[.agg #[.slice Ao43 xz22000_1.length co43, .slice Ao44 xz22001_1.length co44], .slice Ao53 yz32.length co53] (by rfl) rfl rfl (by (try simp only [List.map_toArray, List.map_cons, List.map_nil]) <;> rfl) ?_
  with_reducible refine (columbariumref14_Do.calls kj38 _ _ xz22000_1 _ _ xz22001_1 _ _ yz32 tz36 tz39 tz42 _ ?side1 ?side2 ?side3 ?side4 ?side5 ?side6 A52.out).mono ?_
  (case side1 => repeat (first | exact (Kd.R_reads' HO_z22000.out).2.2 | (with_reducible refine Kd.C_alloc ?_ _) | (with_reducible refine Kd.C_drewN ?_ _) | (with_reducible refine Kd.C_drew ?_)))
  (case side2 => exact (Kd.R_reads' HO_z22000.out).2.1)
  (case side3 => repeat (first | exact (Kd.R_reads' HO_z22001.out).2.2 | (with_reducible refine Kd.C_alloc ?_ _) | (with_reducible refine Kd.C_drewN ?_ _) | (with_reducible refine Kd.C_drew ?_)))
  (case side4 => exact (Kd.R_reads' HO_z22001.out).2.1)
  (case side5 => repeat (first | exact (by repeat (first | (with_reducible exact HRz35.out) | (with_reducible refine Kd.C_alloc ?_ _) | (with_reducible refine Kd.C_drewN ?_ _) | (with_reducible refine Kd.C_drew ?_) | exact HRz35.out)) | (with_reducible refine Kd.C_alloc ?_ _) | (with_reducible refine Kd.C_drewN ?_ _) | (with_reducible refine Kd.C_drew ?_)))
  (case side6 => exact HCz35.out)
  rintro e w57 ⟨vz37, vz40, rfl, ho0, ho1, hb⟩
  refine ⟨_, rfl, ?_⟩
  have n0_ := am (Kd.R_elder' (pr HO_17) (Kd.R_base ho1) hb)
  have n1_ := am (Kd.R_elder' (pr HO_z11000) (Kd.R_base ho0) hb)
  have n2_ := am (Kd.R_elder' (pr HO_z11001) (Kd.R_base ho1) hb)
  have n3_ := am (Kd.R_elder' (pr HO_z22000) (Kd.R_base ho0) hb)
  have n4_ := am (Kd.R_elder' (pr HO_z22001) (Kd.R_base ho1) hb)
  have n5_ := am (Kd.R_lower (Kd.R_new' (Kd.R_new' ho0 (Kd.R_lt (pr HO_z11000))) (Kd.R_lt (pr HO_z22000))) (below_size (by repeat first | (with_reducible first | exact HB.out | apply ba | apply bn | apply bd | refine bs (by assumption) ?_) | exact HB.out)))
  have n6_ := am (Kd.R_lower (Kd.R_new' (Kd.R_new' (Kd.R_new' ho1 (Kd.R_lt (pr HO_17))) (Kd.R_lt (pr HO_z11001))) (Kd.R_lt (pr HO_z22001))) (below_size (by repeat first | (with_reducible first | exact HB.out | apply ba | apply bn | apply bd | refine bs (by assumption) ?_) | exact HB.out)))
  have n7_ := am (bkB (pk BKz10) hb)
  have n8_ := am (bkB (pk BKz21) hb)
  have n9_ := am (Kd.C_below (by repeat (first | (with_reducible exact HRz35.out) | (with_reducible refine Kd.C_alloc ?_ _) | (with_reducible refine Kd.C_drewN ?_ _) | (with_reducible refine Kd.C_drew ?_) | exact HRz35.out)) hb)
  have n10_ := am (bkB (pk BKz43) hb)
  have n11_ := am (below_step (by repeat first | (with_reducible first | exact HB.out | apply ba | apply bn | apply bd | refine bs (by assumption) ?_) | exact HB.out) hb)
  clear HO_17 HO_z11000 HO_z11001 HO_z22000 HO_z22001 BKz10 BKz21 HRz35 BKz43 HB; have HO_17 := n0_; have HO_z11000 := n1_; have HO_z11001 := n2_; have HO_z22000 := n3_; have HO_z22001 := n4_; have HOz38 := n5_; have HOz41 := n6_; have BKz10 := n7_; have BKz21 := n8_; have HRz35 := n9_; have BKz43 := n10_; have HB := n11_; clear n0_ n1_ n2_ n3_ n4_ n5_ n6_ n7_ n8_ n9_ n10_ n11_; refine hK.out _ _ (bc5 BKz21) (fun hHeld => ?_)
  clear hK K
  refine norm_ (by show Act.put _ (some 100) _ = _; simp only [Act.put, sa_, s0_, s1_, i64_w, i32_w]; rfl) ?_
  refine pu_ 6 (some 94) HT_ rfl rfl (.inl ⟨by rfl, by intro w'; go_simp; with_reducible rfl⟩) (by simp only [Act.put, sa_, s0_, s1_, i64_w, i32_w]; rfl) ?_
  refine pu_ 7 (some 101) HT_ rfl rfl (.inl ⟨by rfl, by intro w'; go_simp; with_reducible rfl⟩) (by simp only [Act.put, sa_, s0_, s1_, i64_w, i32_w]; rfl) ?_
  refine pu_ 8 (some 102) HT_ rfl rfl (.inl ⟨by rfl, by intro w'; go_simp; with_reducible rfl⟩) (by simp only [Act.put, sa_, s0_, s1_, i64_w, i32_w]; rfl) ?_
  exact norm_ (by simp only [putAll, Act.put, List.setIfInBounds_toArray, List.set_cons_zero, List.set_cons_succ]) (hCont (vz37, vz40, gbz43) _ ⟨hHeld, (pm HOz38 (fun _ hk => ⟨hk.1.2, hk.2⟩)), (pm HOz41 (fun _ hk => ⟨hk.1.1.2, ⟨hk.1.2, hk.2⟩⟩)), (pm HO_17 (fun _ hk => ⟨hk.2, ⟨hk.1.1, hk.1.2⟩⟩)), (pm HO_z11000 (fun _ hk => ⟨hk.2, hk.1⟩)), (pm HO_z11001 (fun _ hk => ⟨hk.2, ⟨hk.1.1, hk.1.2⟩⟩)), (pm HO_z22000 (fun _ hk => ⟨hk.2, hk.1⟩)), (pm HO_z22001 (fun _ hk => ⟨hk.2, ⟨hk.1.1, hk.1.2⟩⟩)), (pk BKz10), (pk BKz21), (pk BKz43), GWz43.out, GEz43.out, NBz10_z43.out, NBz43_z10.out, NBz21_z43.out, NBz43_z21.out, (by repeat first | (with_reducible first | exact HB.out | apply ba | apply bn | apply bd | refine bs (by assumption) ?_) | exact HB.out)⟩)
 rintro ⟨vz37, vz40, gbz43⟩ w58 ⟨hS_, h0_, h1_, h2_, h3_, h4_, h5_, h6_, h7_, h8_, h9_, h10_, h11_, h12_, h13_, h14_, h15_, h16_⟩
 have n0_ : Aside0 (Kd.R Kd.string 9 w58 w.heap.size (fun k_ => some k_ ≠ (.slice Ao12 tz3.length co12 : Value).ownBlock ∧ some k_ ≠ (.slice Ao43 xz22000_1.length co43 : Value).ownBlock) vz37 tz36) := ⟨h0_⟩
 have n1_ : Aside0 (Kd.R k24 24 w58 w.heap.size (fun k_ => some k_ ≠ (.slice Ao53 tz26.length co53 : Value).ownBlock ∧ some k_ ≠ (.slice Ao14 tz6.length co14 : Value).ownBlock ∧ some k_ ≠ (.slice Ao44 xz22001_1.length co44 : Value).ownBlock) vz40 tz39) := ⟨h1_⟩
 have n2_ : Aside0 (Kd.R k24 24 w58 w.heap.size (fun k_ => some k_ ≠ (vz40 : Value).ownBlock ∧ some k_ ≠ (.slice Ao14 tz6.length co14 : Value).ownBlock ∧ some k_ ≠ (.slice Ao44 xz22001_1.length co44 : Value).ownBlock) (.slice Ao53 tz26.length co53) tz26) := ⟨h2_⟩
 have n3_ : Aside0 (Kd.R Kd.string 9 w58 w.heap.size (fun k_ => some k_ ≠ (vz37 : Value).ownBlock ∧ some k_ ≠ (.slice Ao43 xz22000_1.length co43 : Value).ownBlock) (.slice Ao12 tz3.length co12) tz3) := ⟨h3_⟩
 have n4_ : Aside0 (Kd.R k24 24 w58 w.heap.size (fun k_ => some k_ ≠ (vz40 : Value).ownBlock ∧ some k_ ≠ (.slice Ao53 tz26.length co53 : Value).ownBlock ∧ some k_ ≠ (.slice Ao44 xz22001_1.length co44 : Value).ownBlock) (.slice Ao14 tz6.length co14) tz6) := ⟨h4_⟩
 have n5_ : Aside0 (Kd.R Kd.string 9 w58 w.heap.size (fun k_ => some k_ ≠ (vz37 : Value).ownBlock ∧ some k_ ≠ (.slice Ao12 tz3.length co12 : Value).ownBlock) (.slice Ao43 xz22000_1.length co43) xz22000_1) := ⟨h5_⟩
 have n6_ : Aside0 (Kd.R k24 24 w58 w.heap.size (fun k_ => some k_ ≠ (vz40 : Value).ownBlock ∧ some k_ ≠ (.slice Ao53 tz26.length co53 : Value).ownBlock ∧ some k_ ≠ (.slice Ao14 tz6.length co14 : Value).ownBlock) (.slice Ao44 xz22001_1.length co44) xz22001_1) := ⟨h6_⟩
 have n7_ : Aside0 (w58.heap[gbz10]? = some (.cells #[.slice Ao12 tz3.length co12, .slice Ao14 tz6.length co14] 30 (0, 0))) := ⟨h7_⟩
 have n8_ : Aside0 (w58.heap[gbz21]? = some (.cells #[.slice Ao43 xz22000_1.length co43, .slice Ao44 xz22001_1.length co44, .int .i64 xz22002_1, .int .i64 xz22003_1, .int .i64 xz22004_1] 56 (0, 0))) := ⟨h8_⟩
 have n9_ : Aside0 (w58.heap[gbz43]? = some (.cells #[.slice none 0 0, .slice none 0 0] 30 (0, 0))) := ⟨h9_⟩
 have n10_ : Aside0 (w.heap.size ≤ gbz43) := ⟨h10_⟩
 have n11_ : Aside0 (w.heap.size ≤ gbz43) := ⟨h11_⟩
 have n12_ : Aside0 (gbz10 ≠ gbz43) := ⟨h12_⟩
 have n13_ : Aside0 (gbz43 ≠ gbz10) := ⟨h13_⟩
 have n14_ : Aside0 (gbz21 ≠ gbz43) := ⟨h14_⟩
 have n15_ : Aside0 (gbz43 ≠ gbz21) := ⟨h15_⟩
 have n16_ : Aside0 (Below w.heap.size w w58) := ⟨h16_⟩
 clear HO_17 HO_z11000 HO_z11001 HO_z22000 HO_z22001 BKz10 BKz21 HB h0_ h1_ h2_ h3_ h4_ h5_ h6_ h7_ h8_ h9_ h10_ h11_ h12_ h13_ h14_ h15_ h16_; have HOz38 := n0_; have HOz41 := n1_; have HO_17 := n2_; have HO_z11000 := n3_; have HO_z11001 := n4_; have HO_z22000 := n5_; have HO_z22001 := n6_; have BKz10 := n7_; have BKz21 := n8_; have BKz43 := n9_; have GWz43 := n10_; have GEz43 := n11_; have NBz10_z43 := n12_; have NBz43_z10 := n13_; have NBz21_z43 := n14_; have NBz43_z21 := n15_; have HB := n16_; clear n0_ n1_ n2_ n3_ n4_ n5_ n6_ n7_ n8_ n9_ n10_ n11_ n12_ n13_ n14_ n15_ n16_
 have hHeld : w58.cell? ⟨gbz21, 0, none⟩ = some (.slice Ao43 xz22000_1.length co43) ∧ w58.cell? ⟨gbz21, 1, none⟩ = some (.slice Ao44 xz22001_1.length co44) ∧ w58.cell? ⟨gbz21, 2, none⟩ = some (.int .i64 xz22002_1) ∧ w58.cell? ⟨gbz21, 3, none⟩ = some (.int .i64 xz22003_1) ∧ w58.cell? ⟨gbz21, 4, none⟩ = some (.int .i64 xz22004_1) := hS_
 obtain ⟨Ao59, co59, eo59⟩ := Kd.R_slice HOz38.out
 (first | subst eo59 | (injection eo59 with f1_ f2_ f3_; have f4_ := f1_.symm; have f5_ := f3_.symm; clear f1_ f2_ f3_; subst f4_; subst f5_))
 obtain ⟨Ao61, co61, eo61⟩ := Kd.R_slice HOz41.out
 (first | subst eo61 | (injection eo61 with f1_ f2_ f3_; have f4_ := f1_.symm; have f5_ := f3_.symm; clear f1_ f2_ f3_; subst f4_; subst f5_))
 refine norm_ (by simp only [putAll, Act.put, List.setIfInBounds_toArray, List.set_cons_zero, List.set_cons_succ]; rfl) ?_
 refine on_ 10 none HT_ rfl rfl (fun K hK => ?_)
 have hs60 : w58.cell? ⟨gbz43, 0, none⟩ = some (.slice none 0 0) := (blk_cell BKz43.out 0).trans rfl
 have hfs60 := blk_frozen BKz43.out 0
 have := NBz10_z43.out
 have := NBz21_z43.out
 have := NBz43_z10.out
 have := NBz43_z21.out
 have hs62 : w58.cell? ⟨gbz43, 1, none⟩ = some (.slice none 0 0) := (blk_cell BKz43.out 1).trans rfl
 have hfs62 := blk_frozen BKz43.out 1
 have := NBz10_z43.out
 have := NBz21_z43.out
 have := NBz43_z10.out
 have := NBz43_z21.out
 refine skip_ (by rfl) rfl (by go_simp; rfl) ?_
 refine hK.out _ _ ⟨((cell_far (p := ⟨gbz43, _, none⟩) NBz21_z43.out _).trans (((cell_far (p := ⟨gbz43, _, none⟩) NBz21_z43.out _).trans (hHeld.1)))), ((cell_far (p := ⟨gbz43, _, none⟩) NBz21_z43.out _).trans (((cell_far (p := ⟨gbz43, _, none⟩) NBz21_z43.out _).trans (hHeld.2.1)))), ((cell_far (p := ⟨gbz43, _, none⟩) NBz21_z43.out _).trans (((cell_far (p := ⟨gbz43, _, none⟩) NBz21_z43.out _).trans (hHeld.2.2.1)))), ((cell_far (p := ⟨gbz43, _, none⟩) NBz21_z43.out _).trans (((cell_far (p := ⟨gbz43, _, none⟩) NBz21_z43.out _).trans (hHeld.2.2.2.1)))), ((cell_far (p := ⟨gbz43, _, none⟩) NBz21_z43.out _).trans (((cell_far (p := ⟨gbz43, _, none⟩) NBz21_z43.out _).trans (hHeld.2.2.2.2))))⟩ (fun hHeld => ?_)
 clear hK K
 refine pu_ 11 (some 22) HT_ rfl rfl (.inl ⟨by rfl, by intro w'; go_simp; with_reducible rfl⟩) (by simp only [Act.put, sa_, s0_, s1_, i64_w, i32_w]; rfl) ?_
 refine done_ (done_of HT_.out (by kernel_rfl)) ?_
 try go_wp2
 go_loopg [13, 23, 24] kj38 (fun kq v13 v23 v24 w' => ∃ (x13_4 : Int) (x23_4 : List Int) (x24_4 : Int), v13 = .int .i64 x13_4 ∧ v24 = .int .i64 x24_4 ∧ Aside0 (columbariumlaw15_VaultCrashes.l1 kq l1 l2 tz1 x12_1 x13_4 x14_1 tz26 x19_38 tz31 tz42 x23_4 x24_4 tz36 tz39 = some r) ∧ Aside0 (kq ≤ kj38) ∧ Aside0 (Kd.R k24 24 w' w.heap.size (fun k_ => some k_ ≠ ((.slice Ao14 tz6.length co14) : Value).ownBlock ∧ some k_ ≠ ((.slice Ao44 xz22001_1.length co44) : Value).ownBlock ∧ some k_ ≠ ((.slice Ao61 tz39.length co61) : Value).ownBlock) (.slice Ao53 tz26.length co53) tz26) ∧ Aside0 (Kd.R (Kd.int .i64) 3 w' w.heap.size (fun _ => True) v23 x23_4) ∧ Aside0 (Kd.R Kd.string 9 w' w.heap.size (fun k_ => some k_ ≠ ((.slice Ao43 xz22000_1.length co43) : Value).ownBlock ∧ some k_ ≠ ((.slice Ao59 tz36.length co59) : Value).ownBlock) (.slice Ao12 tz3.length co12) tz3) ∧ Aside0 (Kd.R k24 24 w' w.heap.size (fun k_ => some k_ ≠ ((.slice Ao53 tz26.length co53) : Value).ownBlock ∧ some k_ ≠ ((.slice Ao44 xz22001_1.length co44) : Value).ownBlock ∧ some k_ ≠ ((.slice Ao61 tz39.length co61) : Value).ownBlock) (.slice Ao14 tz6.length co14) tz6) ∧ Aside0 (Kd.R Kd.string 9 w' w.heap.size (fun k_ => some k_ ≠ ((.slice Ao12 tz3.length co12) : Value).ownBlock ∧ some k_ ≠ ((.slice Ao59 tz36.length co59) : Value).ownBlock) (.slice Ao43 xz22000_1.length co43) xz22000_1) ∧ Aside0 (Kd.R k24 24 w' w.heap.size (fun k_ => some k_ ≠ ((.slice Ao53 tz26.length co53) : Value).ownBlock ∧ some k_ ≠ ((.slice Ao14 tz6.length co14) : Value).ownBlock ∧ some k_ ≠ ((.slice Ao61 tz39.length co61) : Value).ownBlock) (.slice Ao44 xz22001_1.length co44) xz22001_1) ∧ Aside0 (Kd.R Kd.string 9 w' w.heap.size (fun k_ => some k_ ≠ ((.slice Ao12 tz3.length co12) : Value).ownBlock ∧ some k_ ≠ ((.slice Ao43 xz22000_1.length co43) : Value).ownBlock) (.slice Ao59 tz36.length co59) tz36) ∧ Aside0 (Kd.R k24 24 w' w.heap.size (fun k_ => some k_ ≠ ((.slice Ao53 tz26.length co53) : Value).ownBlock ∧ some k_ ≠ ((.slice Ao14 tz6.length co14) : Value).ownBlock ∧ some k_ ≠ ((.slice Ao44 xz22001_1.length co44) : Value).ownBlock) (.slice Ao61 tz39.length co61) tz39) ∧ Aside0 (w'.heap[gbz10]? = some (.cells #[(.slice Ao12 tz3.length co12), (.slice Ao14 tz6.length co14)] 30 (0, 0))) ∧ Aside0 (w'.heap[gbz21]? = some (.cells #[(.slice Ao43 xz22000_1.length co43), (.slice Ao44 xz22001_1.length co44), .int .i64 xz22002_1, .int .i64 xz22003_1, .int .i64 xz22004_1] 56 (0, 0))) ∧ Aside0 (w'.heap[gbz43]? = some (.cells #[(.slice Ao59 tz36.length co59), (.slice Ao61 tz39.length co61)] 30 (0, 0))) ∧ Aside0 (Below w.heap.size w w'))
 case atStart => exact ⟨(x13_1), (([] : List Int)), (0), (by first | rfl | (simp; done) | (simp [*]; done)), (by first | rfl | (simp; done) | (simp [*]; done)), H', ⟨Nat.le_refl _⟩, ⟨by (with_reducible repeat first | apply ra | apply rn | apply rd); exact Kd.R_mono (rf2 (Kd.R_types HO_17.out BKz43.out (by decide)) (fun _ hk => hk.2)) (fun _ hk => ⟨hk.1.2.1, ⟨hk.1.2.2, hk.1.1⟩⟩)⟩, ⟨by exact Kd.R_nil _ _ _ _ _⟩, ⟨by (with_reducible repeat first | apply ra | apply rn | apply rd); exact Kd.R_mono (rf2 (Kd.R_types HO_z11000.out BKz43.out (by decide)) (fun _ hk => hk.2)) (fun _ hk => ⟨hk.1.2, hk.1.1⟩)⟩, ⟨by (with_reducible repeat first | apply ra | apply rn | apply rd); exact Kd.R_mono (rf2 (Kd.R_types HO_z11001.out BKz43.out (by decide)) (fun _ hk => hk.2)) (fun _ hk => ⟨hk.1.2.1, ⟨hk.1.2.2, hk.1.1⟩⟩)⟩, ⟨by (with_reducible repeat first | apply ra | apply rn | apply rd); exact Kd.R_mono (rf2 (Kd.R_types HO_z22000.out BKz43.out (by decide)) (fun _ hk => hk.2)) (fun _ hk => ⟨hk.1.2, hk.1.1⟩)⟩, ⟨by (with_reducible repeat first | apply ra | apply rn | apply rd); exact Kd.R_mono (rf2 (Kd.R_types HO_z22001.out BKz43.out (by decide)) (fun _ hk => hk.2)) (fun _ hk => ⟨hk.1.2.1, ⟨hk.1.2.2, hk.1.1⟩⟩)⟩, ⟨by (with_reducible repeat first | apply ra | apply rn | apply rd); exact Kd.R_mono (rf2 (Kd.R_types HOz38.out BKz43.out (by decide)) (fun _ hk => hk.2)) (fun _ hk => ⟨hk.1.1, hk.1.2⟩)⟩, ⟨by (with_reducible repeat first | apply ra | apply rn | apply rd); exact Kd.R_mono (rf2 (Kd.R_types HOz41.out BKz43.out (by decide)) (fun _ hk => hk.2)) (fun _ hk => ⟨hk.1.1, ⟨hk.1.2.1, hk.1.2.2⟩⟩)⟩, ⟨by (with_reducible repeat (first | refine blk_drewN ?_ _ | refine bkD ?_ | refine bkA ?_ _)); refine blk_far ?_ NBz10_z43.out _; refine blk_far ?_ NBz10_z43.out _; (with_reducible repeat (first | refine blk_drewN ?_ _ | refine bkD ?_ | refine bkA ?_ _)); exact BKz10.out⟩, ⟨by (with_reducible repeat (first | refine blk_drewN ?_ _ | refine bkD ?_ | refine bkA ?_ _)); refine blk_far ?_ NBz21_z43.out _; refine blk_far ?_ NBz21_z43.out _; (with_reducible repeat (first | refine blk_drewN ?_ _ | refine bkD ?_ | refine bkA ?_ _)); exact BKz21.out⟩, ⟨by (with_reducible repeat (first | refine blk_drewN ?_ _ | refine bkD ?_ | refine bkA ?_ _)); apply bp2; (with_reducible repeat (first | refine blk_drewN ?_ _ | refine bkD ?_ | refine bkA ?_ _)); exact BKz43.out⟩, ⟨by repeat first | (with_reducible first | exact HB.out | apply ba | apply bn | apply bd | refine bs (by assumption) ?_) | exact HB.out⟩⟩
 clear H'
 try clear c1
 try clear c2
 try clear p2
 try clear c3
 try clear c4
 try clear c5
 try clear q5
 try clear p6
 try clear c8
 try clear c8b0
 try clear c8b1
 try clear c9
 try clear p9
 try clear q9
 try clear hx9
 try clear c14
 try clear c17
 try clear c18
 try clear c22
 try clear c22b0
 try clear c22b1
 try clear c23
 try clear c24
 try clear c24b0
 try clear c25
 try clear c25b0
 try clear c28
 try clear c29
 try clear c29b0
 try clear c29b1
 try clear c30
 try clear c31
 try clear c32
 try clear c36
 try clear c36b0
 try clear c36b1
 try clear c37
 try clear c37b0
 try clear c37b1
 try clear c37b2
 try clear c41
 try clear c46
 try clear c46b0
 try clear c46b1
 try clear c47
 try clear c47b0
 try clear c48
 try clear c48b0
 try clear c50
 try clear c50b0
 try clear c50b1
 try clear c51
 try clear c51b0
 try clear c51b1
 try clear q55
 try clear hcz13_0
 try clear hcz13_1
 try clear hcz19_0
 try clear hcz19_1
 try clear hcz19_2
 try clear hcz19_3
 try clear hcz19_4
 try clear hcz32_0
 try clear hcz32_1
 try clear hcz32_2
 try clear hcz32_3
 try clear hcz32_4
 try clear hcz42_0
 try clear hcz42_1
 try clear hcz42_2
 try clear hcz42_3
 try clear hcz42_4
 try clear hfz13_0
 try clear hfz13_1
 try clear hfz19_0
 try clear hfz19_1
 try clear hfz19_2
 try clear hfz19_3
 try clear hfz19_4
 try clear hfz32_0
 try clear hfz32_1
 try clear hfz32_2
 try clear hfz32_3
 try clear hfz32_4
 try clear hfz42_0
 try clear hfz42_1
 try clear hfz42_2
 try clear hfz42_3
 try clear hfz42_4
 try clear hxz22_0
 try clear hxz22_1
 try clear hxz22_2
 try clear hxz24_0
 try clear hxz24_1
 try clear hxz24_2
 try clear hxz30_0
 try clear hxz30_1
 try clear hxz30_2
 try clear p2
 try clear p6
 try clear p9
 try clear pz22
 try clear pz24
 try clear pz30
 try clear q55
 try clear q9
 try clear qz22
 try clear qz24
 try clear qz30
 obtain ⟨x13_4, x23_4, x24_4, rfl, rfl, HA, HK4, HO_17, HO_23, HO_z11000, HO_z11001, HO_z22000, HO_z22001, HO_z44000, HO_z44001, BKz10, BKz21, BKz43, HB⟩ := hrel
 cases gk with
 | zero => exact absurd HA.out (by simp [columbariumlaw15_VaultCrashes.l1])
 | succ k4 => ?_
 have H := HA.out
 clear HA
 simp only [columbariumlaw15_VaultCrashes.l1] at H
 by_cases c63 : x24_4 < (tz39.length : Int)
 ·rw [if_pos c63] at H
  have c63b0 : decide (x24_4 < (tz39.length : Int)) = true := decide_eq_true c63
  clear c63
  by_cases c64 : (l2.length : Int) > 0
  rotate_left
  ·rw [if_neg c64] at H
   have c64b0 : decide (0 < (l2.length : Int)) = false := decide_eq_false c64
   have c64b1 : decide (0 < l2.length) = false := decide_eq_false (by omega)
   clear c64
   by_cases c75 : x23_4.length < 17592186044416
   rotate_left
   ·rw [if_neg c75] at H
    exact absurd H (by simp)
   rw [if_pos c75] at H
   have LMc75 := Aside0.mk c75
   clear c75
   obtain ⟨yz49, hyz49⟩ : ∃ y_ : List Int, y_ = (x23_4 ++ [0]) := ⟨_, rfl⟩
   replace H : (columbariumlaw15_VaultCrashes.l1 k4 l1 l2 tz1 x12_1 (wrap64 (x13_4 + 1)) x14_1 tz26 x19_38 tz31 tz42 yz49 (wrap64 (x24_4 + 1)) tz36 tz39) = some r := by first | (rw [hyz49]; with_reducible exact H) | (have H2_ := (Option.bind_some _ _).symm.trans H; rw [hyz49]; with_reducible exact H2_) | (have H2_ := (Option.bind_some _ _).symm.trans H; with_reducible exact H2_) | with_reducible exact H | (rw [hyz49]; exact H) | exact H
   have Nyz49 := am hyz49
   clear hyz49
   have H' := am H
   clear H
   have hnb76 := NBz43_z10.out
   have hnc76 := NBz10_z43.out
   have hnb77 := NBz43_z21.out
   have hnc77 := NBz21_z43.out
   obtain ⟨hcz78_0, hcz78_1⟩ := bc2 BKz43
   obtain ⟨hfz78_0, hfz78_1⟩ := bf2 BKz43
   go_wp2_with (first | ((with_reducible refine gate_builtin (b := .append) (xs := #[.tmp 121, .tmp 123]) rfl ?_); (try (refine gate_guard (by rfl) ?_; dsimp only)); at_builtin; refine Kd.R_append (Kd.int .i64) (w0 := w) w.heap.size rfl (.tmp 121) (.tmp 123) 25 3 (.int .i64 0) 8 rfl Try.underlying25 info3 rfl (by decide) (by omega) u23 x23_4 0 [.int .i64 0] (fun _ => True) (fun _ => False) rfl rfl ?aP (fun _ hk => hk.elim) ?aF ?aO ?aB ?aS ?aL ?_; (case aP => exact rfl); (case aB => exact (by repeat first | (with_reducible first | exact HB.out | apply ba | apply bn | apply bd | refine bs (by assumption) ?_) | exact HB.out)); (case aF => exact (fun _ _ => trivial)); (case aO => exact (pr HO_23)); (case aS => exact (below_size (by repeat first | (with_reducible first | exact HB.out | apply ba | apply bn | apply bd | refine bs (by assumption) ?_) | exact HB.out))); (case aL => have := LMc75.out; omega); intro vz50 w79 ho hb hg hat; rw [← Nyz49.out] at ho; have n0_ := am (Kd.R_over' (pr HO_17) (Kd.R_typed (pr HO_23)) (by decide) hg); have n1_ := am (Kd.R_over' (pr HO_z11000) (Kd.R_typed (pr HO_23)) (by decide) hg); have n2_ := am (Kd.R_over' (pr HO_z11001) (Kd.R_typed (pr HO_23)) (by decide) hg); have n3_ := am (Kd.R_over' (pr HO_z22000) (Kd.R_typed (pr HO_23)) (by decide) hg); have n4_ := am (Kd.R_over' (pr HO_z22001) (Kd.R_typed (pr HO_23)) (by decide) hg); have n5_ := am (Kd.R_over' (pr HO_z44000) (Kd.R_typed (pr HO_23)) (by decide) hg); have n6_ := am (Kd.R_over' (pr HO_z44001) (Kd.R_typed (pr HO_23)) (by decide) hg); have n7_ := am (blk_grown (pk BKz10) hg (Kd.R_ne HO_23.out BKz10.out (by decide))); have n8_ := am (blk_grown (pk BKz21) hg (Kd.R_ne HO_23.out BKz21.out (by decide))); have n9_ := am (blk_grown (pk BKz43) hg (Kd.R_ne HO_23.out BKz43.out (by decide))); have n10_ := am (hb); have n11_ := am (ho); clear HO_17; clear HO_z11000; clear HO_z11001; clear HO_z22000; clear HO_z22001; clear HO_z44000; clear HO_z44001; clear BKz10; clear BKz21; clear BKz43; clear HB; clear HO_23; have HO_17 := n0_; have HO_z11000 := n1_; have HO_z11001 := n2_; have HO_z22000 := n3_; have HO_z22001 := n4_; have HO_z44000 := n5_; have HO_z44001 := n6_; have BKz10 := n7_; have BKz21 := n8_; have BKz43 := n9_; have HB := n10_; have HOz51 := n11_; clear n0_ n1_ n2_ n3_ n4_ n5_ n6_ n7_ n8_ n9_ n10_ n11_; clear ho hb hg hat))
   go_roundg k4
   case measure => have := HK1.out; have := HJ20.out; have := HJ38.out; have := HK4.out; omega
   case rel => exact ⟨(wrap64 (x13_4 + 1)), (yz49), (wrap64 (x24_4 + 1)), (by first | rfl | (simp; done) | (simp [*]; done)), (by first | rfl | (simp; done) | (simp [*]; done)), H', ⟨by have := HK1.out; have := HJ20.out; have := HJ38.out; have := HK4.out; omega⟩, ⟨by (with_reducible repeat first | apply ra | apply rn | apply rd); exact HO_17.out⟩, ⟨by (with_reducible repeat first | apply ra | apply rn | apply rd); exact HOz51.out⟩, ⟨by (with_reducible repeat first | apply ra | apply rn | apply rd); exact HO_z11000.out⟩, ⟨by (with_reducible repeat first | apply ra | apply rn | apply rd); exact HO_z11001.out⟩, ⟨by (with_reducible repeat first | apply ra | apply rn | apply rd); exact HO_z22000.out⟩, ⟨by (with_reducible repeat first | apply ra | apply rn | apply rd); exact HO_z22001.out⟩, ⟨by (with_reducible repeat first | apply ra | apply rn | apply rd); exact HO_z44000.out⟩, ⟨by (with_reducible repeat first | apply ra | apply rn | apply rd); exact HO_z44001.out⟩, ⟨by (with_reducible repeat (first | refine blk_drewN ?_ _ | refine bkD ?_ | refine bkA ?_ _)); exact BKz10.out⟩, ⟨by (with_reducible repeat (first | refine blk_drewN ?_ _ | refine bkD ?_ | refine bkA ?_ _)); exact BKz21.out⟩, ⟨by (with_reducible repeat (first | refine blk_drewN ?_ _ | refine bkD ?_ | refine bkA ?_ _)); exact BKz43.out⟩, ⟨by repeat first | (with_reducible first | exact HB.out | apply ba | apply bn | apply bd | refine bs (by assumption) ?_) | exact HB.out⟩⟩
  rw [if_pos c64] at H
  have c64b0 : decide (0 < (l2.length : Int)) = true := decide_eq_true c64
  have c64b1 : decide (0 < l2.length) = true := decide_eq_true (by omega)
  clear c64
  by_cases c65 : (l2.length : Int) = 0
  ·rw [if_pos c65] at H
   exact absurd H (by simp)
  rw [if_neg c65] at H
  have c65b0 : ((l2.length : Int) == 0) = false := beq_eq_false_iff_ne.mpr c65
  have c65b1 : ((l2.length : Int) != 0) = true := bne_iff_ne.mpr c65
  have c65b2 : ¬ (l2 = []) := fun h_ => c65 (by rw [h_]; rfl)
  obtain ⟨ji66, hji66⟩ : ∃ j_ : Int, (Int.tmod x13_4 (l2.length : Int)) = j_ := ⟨_, rfl⟩
  replace H : (if 0 ≤ (ji66) then (if (ji66) < (l2.length : Int) then ((columbariumlaw15_pick.f (rd l2 (ji66)) 65).bind fun tz45 => (if x23_4.length < 17592186044416 then (columbariumlaw15_VaultCrashes.l1 k4 l1 l2 tz1 x12_1 (wrap64 (x13_4 + 1)) x14_1 tz26 x19_38 tz31 tz42 (x23_4 ++ [tz45]) (wrap64 (x24_4 + 1)) tz36 tz39) else (none))) else (none)) else (none)) = some r := by first | (rw [hji66] at H; exact H) | (simp only [hji66] at H ⊢; exact H)
  by_cases c67 : 0 ≤ (ji66)
  rotate_left
  ·rw [if_neg c67] at H
   exact absurd H (by simp)
  rw [if_pos c67] at H
  have c67b0 : decide (0 ≤ (ji66)) = true := decide_eq_true c67
  clear c67
  by_cases c68 : (ji66) < (l2.length : Int)
  rotate_left
  ·rw [if_neg c68] at H
   exact absurd H (by simp)
  rw [if_pos c68] at H
  have c68b0 : decide ((ji66) < (l2.length : Int)) = true := decide_eq_true c68
  clear c68
  replace H := ob_ H
  obtain ⟨tz45, A690, H⟩ := H
  replace H : (if x23_4.length < 17592186044416 then (columbariumlaw15_VaultCrashes.l1 k4 l1 l2 tz1 x12_1 (wrap64 (x13_4 + 1)) x14_1 tz26 x19_38 tz31 tz42 (x23_4 ++ [tz45]) (wrap64 (x24_4 + 1)) tz36 tz39) else (none)) = some r := H
  have A69 := Aside0.mk A690
  clear A690
  by_cases c70 : x23_4.length < 17592186044416
  rotate_left
  ·rw [if_neg c70] at H
   exact absurd H (by simp)
  rw [if_pos c70] at H
  have LMc70 := Aside0.mk c70
  clear c70
  obtain ⟨yz46, hyz46⟩ : ∃ y_ : List Int, y_ = (x23_4 ++ [tz45]) := ⟨_, rfl⟩
  replace H : (columbariumlaw15_VaultCrashes.l1 k4 l1 l2 tz1 x12_1 (wrap64 (x13_4 + 1)) x14_1 tz26 x19_38 tz31 tz42 yz46 (wrap64 (x24_4 + 1)) tz36 tz39) = some r := by first | (rw [hyz46]; with_reducible exact H) | (have H2_ := (Option.bind_some _ _).symm.trans H; rw [hyz46]; with_reducible exact H2_) | (have H2_ := (Option.bind_some _ _).symm.trans H; with_reducible exact H2_) | with_reducible exact H | (rw [hyz46]; exact H) | exact H
  have Nyz46 := am hyz46
  clear hyz46
  have H' := am H
  clear H
  have hnb71 := NBz43_z10.out
  have hnc71 := NBz10_z43.out
  have hnb72 := NBz43_z21.out
  have hnc72 := NBz21_z43.out
  obtain ⟨hcz73_0, hcz73_1⟩ := bc2 BKz43
  obtain ⟨hfz73_0, hfz73_1⟩ := bf2 BKz43
  have pz44 : 0 ≤ ((ji66) : Int) := of_decide_eq_true (by first | (with_reducible assumption) | assumption)
  have qz44 : (ji66) < (l2.length : Int) := of_decide_eq_true (by first | (with_reducible assumption) | assumption)
  obtain ⟨adz44, ez44, hxz44_0⟩ := Kd.at_int HR2.out (ji66) pz44 qz44
  cases ez44
  replace hxz44_0 := (HB.out.cell (World.block_lt_of_cell? w _ hxz44_0)).trans hxz44_0
  replace pz44 := eq_true pz44
  replace qz44 := eq_true qz44
  go_wp2_with (first | ((with_reducible refine gate_callee (f := 29) rfl ?_); refine goesL_ (some 120) rfl rfl Try.func29 (by kernel_rfl) rfl #[.int .i64 (rd l2 (ji66)), .int .i64 65] rfl (by (try simp only [List.map_toArray, List.map_cons, List.map_nil]); first | done | (simp only [hji66]; rfl) | rfl | (simp only [List.length_drop, List.length_take]; rfl)) ?_; (with_reducible refine (columbariumlaw15_pick.calls (rd l2 (ji66)) 65 tz45 _ A69.out).mono ?_); rintro e w' ⟨rfl, ⟨nd, rfl⟩⟩; refine ⟨_, rfl, ?_⟩) | ((with_reducible refine gate_builtin (b := .append) (xs := #[.tmp 121, .tmp 123]) rfl ?_); (try (refine gate_guard (by rfl) ?_; dsimp only)); at_builtin; refine Kd.R_append (Kd.int .i64) (w0 := w) w.heap.size rfl (.tmp 121) (.tmp 123) 25 3 (.int .i64 0) 8 rfl Try.underlying25 info3 rfl (by decide) (by omega) u23 x23_4 tz45 [.int .i64 tz45] (fun _ => True) (fun _ => False) rfl rfl ?aP (fun _ hk => hk.elim) ?aF ?aO ?aB ?aS ?aL ?_; (case aP => exact rfl); (case aB => exact (by repeat first | (with_reducible first | exact HB.out | apply ba | apply bn | apply bd | refine bs (by assumption) ?_) | exact HB.out)); (case aF => exact (fun _ _ => trivial)); (case aO => exact (pr HO_23)); (case aS => exact (below_size (by repeat first | (with_reducible first | exact HB.out | apply ba | apply bn | apply bd | refine bs (by assumption) ?_) | exact HB.out))); (case aL => have := LMc70.out; omega); intro vz47 w74 ho hb hg hat; rw [← Nyz46.out] at ho; have n0_ := am (Kd.R_over' (pr HO_17) (Kd.R_typed (pr HO_23)) (by decide) hg); have n1_ := am (Kd.R_over' (pr HO_z11000) (Kd.R_typed (pr HO_23)) (by decide) hg); have n2_ := am (Kd.R_over' (pr HO_z11001) (Kd.R_typed (pr HO_23)) (by decide) hg); have n3_ := am (Kd.R_over' (pr HO_z22000) (Kd.R_typed (pr HO_23)) (by decide) hg); have n4_ := am (Kd.R_over' (pr HO_z22001) (Kd.R_typed (pr HO_23)) (by decide) hg); have n5_ := am (Kd.R_over' (pr HO_z44000) (Kd.R_typed (pr HO_23)) (by decide) hg); have n6_ := am (Kd.R_over' (pr HO_z44001) (Kd.R_typed (pr HO_23)) (by decide) hg); have n7_ := am (blk_grown (pk BKz10) hg (Kd.R_ne HO_23.out BKz10.out (by decide))); have n8_ := am (blk_grown (pk BKz21) hg (Kd.R_ne HO_23.out BKz21.out (by decide))); have n9_ := am (blk_grown (pk BKz43) hg (Kd.R_ne HO_23.out BKz43.out (by decide))); have n10_ := am (hb); have n11_ := am (ho); clear HO_17; clear HO_z11000; clear HO_z11001; clear HO_z22000; clear HO_z22001; clear HO_z44000; clear HO_z44001; clear BKz10; clear BKz21; clear BKz43; clear HB; clear HO_23; have HO_17 := n0_; have HO_z11000 := n1_; have HO_z11001 := n2_; have HO_z22000 := n3_; have HO_z22001 := n4_; have HO_z44000 := n5_; have HO_z44001 := n6_; have BKz10 := n7_; have BKz21 := n8_; have BKz43 := n9_; have HB := n10_; have HOz48 := n11_; clear n0_ n1_ n2_ n3_ n4_ n5_ n6_ n7_ n8_ n9_ n10_ n11_; clear ho hb hg hat))
  go_roundg k4
  case measure => have := HK1.out; have := HJ20.out; have := HJ38.out; have := HK4.out; omega
  case rel => exact ⟨(wrap64 (x13_4 + 1)), (yz46), (wrap64 (x24_4 + 1)), (by first | rfl | (simp; done) | (simp [*]; done)), (by first | rfl | (simp; done) | (simp [*]; done)), H', ⟨by have := HK1.out; have := HJ20.out; have := HJ38.out; have := HK4.out; omega⟩, ⟨by (with_reducible repeat first | apply ra | apply rn | apply rd); exact HO_17.out⟩, ⟨by (with_reducible repeat first | apply ra | apply rn | apply rd); exact HOz48.out⟩, ⟨by (with_reducible repeat first | apply ra | apply rn | apply rd); exact HO_z11000.out⟩, ⟨by (with_reducible repeat first | apply ra | apply rn | apply rd); exact HO_z11001.out⟩, ⟨by (with_reducible repeat first | apply ra | apply rn | apply rd); exact HO_z22000.out⟩, ⟨by (with_reducible repeat first | apply ra | apply rn | apply rd); exact HO_z22001.out⟩, ⟨by (with_reducible repeat first | apply ra | apply rn | apply rd); exact HO_z44000.out⟩, ⟨by (with_reducible repeat first | apply ra | apply rn | apply rd); exact HO_z44001.out⟩, ⟨by (with_reducible repeat (first | refine blk_drewN ?_ _ | refine bkD ?_ | refine bkA ?_ _)); exact BKz10.out⟩, ⟨by (with_reducible repeat (first | refine blk_drewN ?_ _ | refine bkD ?_ | refine bkA ?_ _)); exact BKz21.out⟩, ⟨by (with_reducible repeat (first | refine blk_drewN ?_ _ | refine bkD ?_ | refine bkA ?_ _)); exact BKz43.out⟩, ⟨by repeat first | (with_reducible first | exact HB.out | apply ba | apply bn | apply bd | refine bs (by assumption) ?_) | exact HB.out⟩⟩
 rw [if_neg c63] at H
 have c63b0 : decide (x24_4 < (tz39.length : Int)) = false := decide_eq_false c63
 clear c63
 replace H := ob_ H
 obtain ⟨⟨tz52, tz55, tz58⟩, A800, H⟩ := H
 replace H : ((vault_Open.f tz52 tz55).bind fun btz60 => (if tz42 = 0 then (if tz58 = 0 then (if btz60.2.2.2.2.2.2 = 0 then ((vault_Right.f btz60.1 btz60.2.1 btz60.2.2.1 btz60.2.2.2.1 btz60.2.2.2.2.1).bind fun tz72 => (columbariumlaw15_VaultCrashes.j4 k4 l1 l2 tz1 x12_1 x13_4 x14_1 tz26 x19_38 tz31 btz60.2.2.2.2.2.1 (!tz72) btz60.1 btz60.2.1 btz60.2.2.1 btz60.2.2.2.1 btz60.2.2.2.2.1)) else (columbariumlaw15_VaultCrashes.j4 k4 l1 l2 tz1 x12_1 x13_4 x14_1 tz26 x19_38 tz31 btz60.2.2.2.2.2.1 true btz60.1 btz60.2.1 btz60.2.2.1 btz60.2.2.2.1 btz60.2.2.2.2.1)) else (columbariumlaw15_VaultCrashes.j4 k4 l1 l2 tz1 x12_1 x13_4 x14_1 tz26 x19_38 tz31 btz60.2.2.2.2.2.1 true btz60.1 btz60.2.1 btz60.2.2.1 btz60.2.2.2.1 btz60.2.2.2.2.1)) else (columbariumlaw15_VaultCrashes.j4 k4 l1 l2 tz1 x12_1 x13_4 x14_1 tz26 x19_38 tz31 btz60.2.2.2.2.2.1 true btz60.1 btz60.2.1 btz60.2.2.1 btz60.2.2.2.1 btz60.2.2.2.2.1))) = some r := H
 have A80 := Aside0.mk A800
 clear A800
 replace H := ob_ H
 obtain ⟨⟨tz60, tz63, tz66, tz67, tz68, tz69, tz70⟩, A810, H⟩ := H
 replace H : (if tz42 = 0 then (if tz58 = 0 then (if tz70 = 0 then ((vault_Right.f tz60 tz63 tz66 tz67 tz68).bind fun tz72 => (columbariumlaw15_VaultCrashes.j4 k4 l1 l2 tz1 x12_1 x13_4 x14_1 tz26 x19_38 tz31 tz69 (!tz72) tz60 tz63 tz66 tz67 tz68)) else (columbariumlaw15_VaultCrashes.j4 k4 l1 l2 tz1 x12_1 x13_4 x14_1 tz26 x19_38 tz31 tz69 true tz60 tz63 tz66 tz67 tz68)) else (columbariumlaw15_VaultCrashes.j4 k4 l1 l2 tz1 x12_1 x13_4 x14_1 tz26 x19_38 tz31 tz69 true tz60 tz63 tz66 tz67 tz68)) else (columbariumlaw15_VaultCrashes.j4 k4 l1 l2 tz1 x12_1 x13_4 x14_1 tz26 x19_38 tz31 tz69 true tz60 tz63 tz66 tz67 tz68)) = some r := H
 have A81 := Aside0.mk A810
 clear A810
 have HC82 := am H
 clear H
 have hnb83 := NBz43_z10.out
 have hnc83 := NBz10_z43.out
 have hnb84 := NBz43_z21.out
 have hnc84 := NBz21_z43.out
 obtain ⟨hcz85_0, hcz85_1⟩ := bc2 BKz43
 obtain ⟨hfz85_0, hfz85_1⟩ := bf2 BKz43
 obtain ⟨Ao86, co86, eo86⟩ := Kd.R_slice HO_23.out
 subst eo86
 go_upto_region 33 with (first | ((with_reducible refine gate_callee (f := 27) rfl ?_); refine goesL_ (some 130) rfl rfl Try.func27 (by kernel_rfl) rfl #[.agg #[.slice Ao59 tz36.length co59, .slice Ao61 tz39.length co61], .slice Ao86 x23_4.length co86] rfl (by (try simp only [List.map_toArray, List.map_cons, List.map_nil]) <;> rfl) ?_; (with_reducible refine (columbariumref14_Crash.calls k4 _ _ tz36 _ _ tz39 _ _ x23_4 tz52 tz55 tz58 _ ?side1 ?side2 ?side3 ?side4 ?side5 ?side6 A80.out).mono ?_); (case side1 => repeat (first | exact (Kd.R_reads' HO_z44000.out).2.2 | (with_reducible refine Kd.C_alloc ?_ _) | (with_reducible refine Kd.C_drewN ?_ _) | (with_reducible refine Kd.C_drew ?_))); (case side2 => exact (Kd.R_reads' HO_z44000.out).2.1); (case side3 => repeat (first | exact (Kd.R_reads' HO_z44001.out).2.2 | (with_reducible refine Kd.C_alloc ?_ _) | (with_reducible refine Kd.C_drewN ?_ _) | (with_reducible refine Kd.C_drew ?_))); (case side4 => exact (Kd.R_reads' HO_z44001.out).2.1); (case side5 => repeat (first | exact (Kd.R_reads' HO_23.out).2.2 | (with_reducible refine Kd.C_alloc ?_ _) | (with_reducible refine Kd.C_drewN ?_ _) | (with_reducible refine Kd.C_drew ?_))); (case side6 => exact (Kd.R_reads' HO_23.out).2.1); rintro e w87 ⟨vz53, vz56, rfl, ho0, ho1, hb⟩; refine ⟨_, rfl, ?_⟩; have n0_ := am (Kd.R_elder' (pr HO_17) (Kd.R_base ho1) hb); have n1_ := am (Kd.R_below (pr HO_23) hb); have n2_ := am (Kd.R_elder' (pr HO_z11000) (Kd.R_base ho0) hb); have n3_ := am (Kd.R_elder' (pr HO_z11001) (Kd.R_base ho1) hb); have n4_ := am (Kd.R_elder' (pr HO_z22000) (Kd.R_base ho0) hb); have n5_ := am (Kd.R_elder' (pr HO_z22001) (Kd.R_base ho1) hb); have n6_ := am (Kd.R_elder' (pr HO_z44000) (Kd.R_base ho0) hb); have n7_ := am (Kd.R_elder' (pr HO_z44001) (Kd.R_base ho1) hb); have n8_ := am (Kd.R_lower (Kd.R_new' (Kd.R_new' (Kd.R_new' ho0 (Kd.R_lt (pr HO_z11000))) (Kd.R_lt (pr HO_z22000))) (Kd.R_lt (pr HO_z44000))) (below_size (by repeat first | (with_reducible first | exact HB.out | apply ba | apply bn | apply bd | refine bs (by assumption) ?_) | exact HB.out))); have n9_ := am (Kd.R_lower (Kd.R_new' (Kd.R_new' (Kd.R_new' (Kd.R_new' ho1 (Kd.R_lt (pr HO_17))) (Kd.R_lt (pr HO_z11001))) (Kd.R_lt (pr HO_z22001))) (Kd.R_lt (pr HO_z44001))) (below_size (by repeat first | (with_reducible first | exact HB.out | apply ba | apply bn | apply bd | refine bs (by assumption) ?_) | exact HB.out))); have n10_ := am (bkB (pk BKz10) hb); have n11_ := am (bkB (pk BKz21) hb); have n12_ := am (bkB (pk BKz43) hb); have n13_ := am (below_step (by repeat first | (with_reducible first | exact HB.out | apply ba | apply bn | apply bd | refine bs (by assumption) ?_) | exact HB.out) hb); clear HO_17; clear HO_23; clear HO_z11000; clear HO_z11001; clear HO_z22000; clear HO_z22001; clear HO_z44000; clear HO_z44001; clear BKz10; clear BKz21; clear BKz43; clear HB; have HO_17 := n0_; have HO_23 := n1_; have HO_z11000 := n2_; have HO_z11001 := n3_; have HO_z22000 := n4_; have HO_z22001 := n5_; have HO_z44000 := n6_; have HO_z44001 := n7_; have HOz54 := n8_; have HOz57 := n9_; have BKz10 := n10_; have BKz21 := n11_; have BKz43 := n12_; have HB := n13_; clear n0_ n1_ n2_ n3_ n4_ n5_ n6_ n7_ n8_ n9_ n10_ n11_ n12_ n13_; (try clear ho1)) | ((with_reducible refine gate_dst (N := 26) rfl ?_); (try (refine gate_guard (by rfl) ?_; dsimp only)); refine box_event ?hg (N := 26) ?hd (cs := #[.slice none 0 0, .slice none 0 0]) (t := 30) ?hr ?_; (case hd => rfl); (case hg => rfl); (case hr => first | (go_simp; done) | (go_simp; rfl)); intro gbz59 hg w88 hbox hb; have n0_ := am (Kd.R_below (pr HO_17) hb); have n1_ := am (Kd.R_below (pr HO_23) hb); have n2_ := am (Kd.R_below (pr HO_z11000) hb); have n3_ := am (Kd.R_below (pr HO_z11001) hb); have n4_ := am (Kd.R_below (pr HO_z22000) hb); have n5_ := am (Kd.R_below (pr HO_z22001) hb); have n6_ := am (Kd.R_below (pr HO_z44000) hb); have n7_ := am (Kd.R_below (pr HO_z44001) hb); have n8_ := am (Kd.R_below (pr HOz54) hb); have n9_ := am (Kd.R_below (pr HOz57) hb); have n10_ := am (bkB (pk BKz10) hb); have n11_ := am (bkB (pk BKz21) hb); have n12_ := am (bkB (pk BKz43) hb); have n13_ := am (below_step (by repeat first | (with_reducible first | exact HB.out | apply ba | apply bn | apply bd | refine bs (by assumption) ?_) | exact HB.out) hb); have n14_ := am (hbox); have n15_ := ge_ hg (by repeat first | (with_reducible first | exact HB.out | apply ba | apply bn | apply bd | refine bs (by assumption) ?_) | exact HB.out); have n16_ := ge_ hg (by repeat first | (with_reducible first | exact HB.out | apply ba | apply bn | apply bd | refine bs (by assumption) ?_) | exact HB.out); have n17_ := nl_ hg BKz10; have n18_ := ng_ hg BKz10; have n19_ := nl_ hg BKz21; have n20_ := ng_ hg BKz21; have n21_ := nl_ hg BKz43; have n22_ := ng_ hg BKz43; clear HO_17; clear HO_23; clear HO_z11000; clear HO_z11001; clear HO_z22000; clear HO_z22001; clear HO_z44000; clear HO_z44001; clear HOz54; clear HOz57; clear BKz10; clear BKz21; clear BKz43; clear HB; have HO_17 := n0_; have HO_23 := n1_; have HO_z11000 := n2_; have HO_z11001 := n3_; have HO_z22000 := n4_; have HO_z22001 := n5_; have HO_z44000 := n6_; have HO_z44001 := n7_; have HOz54 := n8_; have HOz57 := n9_; have BKz10 := n10_; have BKz21 := n11_; have BKz43 := n12_; have HB := n13_; have BKz59 := n14_; have GWz59 := n15_; have GEz59 := n16_; have NBz10_z59 := n17_; have NBz59_z10 := n18_; have NBz21_z59 := n19_; have NBz59_z21 := n20_; have NBz43_z59 := n21_; have NBz59_z43 := n22_; clear n0_ n1_ n2_ n3_ n4_ n5_ n6_ n7_ n8_ n9_ n10_ n11_ n12_ n13_ n14_ n15_ n16_ n17_ n18_ n19_ n20_ n21_ n22_; clear hb hbox hg; obtain ⟨Ao89, co89, eo89⟩ := Kd.R_slice HOz54.out; subst eo89; have hnb90 := NBz59_z10.out; have hnc90 := NBz10_z59.out; have hnb91 := NBz59_z21.out; have hnc91 := NBz21_z59.out; have hnb92 := NBz59_z43.out; have hnc92 := NBz43_z59.out; obtain ⟨hcz93_0, hcz93_1⟩ := bc2 BKz59; obtain ⟨hfz93_0, hfz93_1⟩ := bf2 BKz59; obtain ⟨Ao94, co94, eo94⟩ := Kd.R_slice HOz57.out; subst eo94) | ((with_reducible refine gate_callee (f := 35) rfl ?_); refine goesL_ (some 135) rfl rfl Try.func35 (by kernel_rfl) rfl #[.agg #[.slice Ao89 tz52.length co89, .slice Ao94 tz55.length co94]] rfl (by (try simp only [List.map_toArray, List.map_cons, List.map_nil]) <;> rfl) ?_; (with_reducible refine (vault_Open.calls _ _ tz52 _ _ tz55 tz60 tz63 tz66 tz67 tz68 tz69 tz70 _ ?side1 ?side2 ?side3 ?side4 A81.out).mono ?_); (case side1 => refine (Kd.R_reads' (e := 9) (base := w.heap.size) (ok := fun k_ => (((True ∧ some k_ ≠ (.slice Ao12 tz3.length co12 : Value).ownBlock) ∧ some k_ ≠ (.slice Ao43 xz22000_1.length co43 : Value).ownBlock) ∧ some k_ ≠ (.slice Ao59 tz36.length co59 : Value).ownBlock)) (n := tz52.length) (c := co89) ?_).2.2; exact (by (with_reducible repeat first | apply ra | apply rn | apply rd); exact (rs2 HOz54 BKz59 (by decide)))); (case side2 => exact (Kd.R_reads' HOz54.out).2.1); (case side3 => refine (Kd.R_reads' (e := 24) (base := w.heap.size) (ok := fun k_ => ((((True ∧ some k_ ≠ (.slice Ao53 tz26.length co53 : Value).ownBlock) ∧ some k_ ≠ (.slice Ao14 tz6.length co14 : Value).ownBlock) ∧ some k_ ≠ (.slice Ao44 xz22001_1.length co44 : Value).ownBlock) ∧ some k_ ≠ (.slice Ao61 tz39.length co61 : Value).ownBlock)) (n := tz55.length) (c := co94) ?_).2.2; exact (by (with_reducible repeat first | apply ra | apply rn | apply rd); exact (rs2 HOz57 BKz59 (by decide)))); (case side4 => exact (Kd.R_reads' HOz57.out).2.1); rintro e w95 ⟨vz61, vz64, rfl, ho0, ho1, hb⟩; refine ⟨_, rfl, ?_⟩; have n0_ := am (Kd.R_elder' (by (with_reducible repeat first | apply ra | apply rn | apply rd); exact (rs2 HO_17 BKz59 (by decide))) (Kd.R_base ho1) hb); have n1_ := am (Kd.R_below (by (with_reducible repeat first | apply ra | apply rn | apply rd); exact (rs2 HO_23 BKz59 (by decide))) hb); have n2_ := am (Kd.R_elder' (by (with_reducible repeat first | apply ra | apply rn | apply rd); exact (rs2 HO_z11000 BKz59 (by decide))) (Kd.R_base ho0) hb); have n3_ := am (Kd.R_elder' (by (with_reducible repeat first | apply ra | apply rn | apply rd); exact (rs2 HO_z11001 BKz59 (by decide))) (Kd.R_base ho1) hb); have n4_ := am (Kd.R_elder' (by (with_reducible repeat first | apply ra | apply rn | apply rd); exact (rs2 HO_z22000 BKz59 (by decide))) (Kd.R_base ho0) hb); have n5_ := am (Kd.R_elder' (by (with_reducible repeat first | apply ra | apply rn | apply rd); exact (rs2 HO_z22001 BKz59 (by decide))) (Kd.R_base ho1) hb); have n6_ := am (Kd.R_elder' (by (with_reducible repeat first | apply ra | apply rn | apply rd); exact (rs2 HO_z44000 BKz59 (by decide))) (Kd.R_base ho0) hb); have n7_ := am (Kd.R_elder' (by (with_reducible repeat first | apply ra | apply rn | apply rd); exact (rs2 HO_z44001 BKz59 (by decide))) (Kd.R_base ho1) hb); have n8_ := am (Kd.R_elder' (by (with_reducible repeat first | apply ra | apply rn | apply rd); exact (rs2 HOz54 BKz59 (by decide))) (Kd.R_base ho0) hb); have n9_ := am (Kd.R_elder' (by (with_reducible repeat first | apply ra | apply rn | apply rd); exact (rs2 HOz57 BKz59 (by decide))) (Kd.R_base ho1) hb); have n10_ := am (Kd.R_lower (Kd.R_new' (Kd.R_new' (Kd.R_new' (Kd.R_new' ho0 (Kd.R_lt (by (with_reducible repeat first | apply ra | apply rn | apply rd); exact (rs2 HO_z11000 BKz59 (by decide))))) (Kd.R_lt (by (with_reducible repeat first | apply ra | apply rn | apply rd); exact (rs2 HO_z22000 BKz59 (by decide))))) (Kd.R_lt (by (with_reducible repeat first | apply ra | apply rn | apply rd); exact (rs2 HO_z44000 BKz59 (by decide))))) (Kd.R_lt (by (with_reducible repeat first | apply ra | apply rn | apply rd); exact (rs2 HOz54 BKz59 (by decide))))) (below_size (by repeat first | (with_reducible first | exact HB.out | apply ba | apply bn | apply bd | refine bs (by assumption) ?_) | exact HB.out))); have n11_ := am (Kd.R_lower (Kd.R_new' (Kd.R_new' (Kd.R_new' (Kd.R_new' (Kd.R_new' ho1 (Kd.R_lt (by (with_reducible repeat first | apply ra | apply rn | apply rd); exact (rs2 HO_17 BKz59 (by decide))))) (Kd.R_lt (by (with_reducible repeat first | apply ra | apply rn | apply rd); exact (rs2 HO_z11001 BKz59 (by decide))))) (Kd.R_lt (by (with_reducible repeat first | apply ra | apply rn | apply rd); exact (rs2 HO_z22001 BKz59 (by decide))))) (Kd.R_lt (by (with_reducible repeat first | apply ra | apply rn | apply rd); exact (rs2 HO_z44001 BKz59 (by decide))))) (Kd.R_lt (by (with_reducible repeat first | apply ra | apply rn | apply rd); exact (rs2 HOz57 BKz59 (by decide))))) (below_size (by repeat first | (with_reducible first | exact HB.out | apply ba | apply bn | apply bd | refine bs (by assumption) ?_) | exact HB.out))); have n12_ := am (bkB (g := gbz10) (o := .cells #[.slice Ao12 tz3.length co12, .slice Ao14 tz6.length co14] 30 (0, 0)) (by (with_reducible repeat (first | refine blk_drewN ?_ _ | refine bkD ?_ | refine bkA ?_ _)); refine blk_far ?_ NBz10_z59.out _; refine blk_far ?_ NBz10_z59.out _; exact pk BKz10) hb); have n13_ := am (bkB (g := gbz21) (o := .cells #[.slice Ao43 xz22000_1.length co43, .slice Ao44 xz22001_1.length co44, .int .i64 xz22002_1, .int .i64 xz22003_1, .int .i64 xz22004_1] 56 (0, 0)) (by (with_reducible repeat (first | refine blk_drewN ?_ _ | refine bkD ?_ | refine bkA ?_ _)); refine blk_far ?_ NBz21_z59.out _; refine blk_far ?_ NBz21_z59.out _; exact pk BKz21) hb); have n14_ := am (bkB (g := gbz43) (o := .cells #[.slice Ao59 tz36.length co59, .slice Ao61 tz39.length co61] 30 (0, 0)) (by (with_reducible repeat (first | refine blk_drewN ?_ _ | refine bkD ?_ | refine bkA ?_ _)); refine blk_far ?_ NBz43_z59.out _; refine blk_far ?_ NBz43_z59.out _; exact pk BKz43) hb); have n15_ := am (bkB (g := gbz59) (o := .cells #[.slice Ao89 tz52.length co89, .slice Ao94 tz55.length co94] 30 (0, 0)) (by (with_reducible repeat (first | refine blk_drewN ?_ _ | refine bkD ?_ | refine bkA ?_ _)); apply bp2; exact pk BKz59) hb); have n16_ := am (below_step (by repeat first | (with_reducible first | exact HB.out | apply ba | apply bn | apply bd | refine bs (by assumption) ?_) | exact HB.out) hb); clear HO_17; clear HO_23; clear HO_z11000; clear HO_z11001; clear HO_z22000; clear HO_z22001; clear HO_z44000; clear HO_z44001; clear HOz54; clear HOz57; clear BKz10; clear BKz21; clear BKz43; clear BKz59; clear HB; have HO_17 := n0_; have HO_23 := n1_; have HO_z11000 := n2_; have HO_z11001 := n3_; have HO_z22000 := n4_; have HO_z22001 := n5_; have HO_z44000 := n6_; have HO_z44001 := n7_; have HOz54 := n8_; have HOz57 := n9_; have HOz62 := n10_; have HOz65 := n11_; have BKz10 := n12_; have BKz21 := n13_; have BKz43 := n14_; have BKz59 := n15_; have HB := n16_; clear n0_ n1_ n2_ n3_ n4_ n5_ n6_ n7_ n8_ n9_ n10_ n11_ n12_ n13_ n14_ n15_ n16_; (try clear ho1)) | ((with_reducible refine gate_dst (N := 28) rfl ?_); (try (refine gate_guard (by rfl) ?_; dsimp only)); refine box_event ?hg (N := 28) ?hd (cs := #[.slice none 0 0, .slice none 0 0, .int .i64 0, .int .i64 0, .int .i64 0]) (t := 56) ?hr ?_; (case hd => rfl); (case hg => rfl); (case hr => first | (go_simp; done) | (go_simp; rfl)); intro gbz71 hg w96 hbox hb; have n0_ := am (Kd.R_below (pr HO_17) hb); have n1_ := am (Kd.R_below (pr HO_23) hb); have n2_ := am (Kd.R_below (pr HO_z11000) hb); have n3_ := am (Kd.R_below (pr HO_z11001) hb); have n4_ := am (Kd.R_below (pr HO_z22000) hb); have n5_ := am (Kd.R_below (pr HO_z22001) hb); have n6_ := am (Kd.R_below (pr HO_z44000) hb); have n7_ := am (Kd.R_below (pr HO_z44001) hb); have n8_ := am (Kd.R_below (pr HOz54) hb); have n9_ := am (Kd.R_below (pr HOz57) hb); have n10_ := am (Kd.R_below (pr HOz62) hb); have n11_ := am (Kd.R_below (pr HOz65) hb); have n12_ := am (bkB (pk BKz10) hb); have n13_ := am (bkB (pk BKz21) hb); have n14_ := am (bkB (pk BKz43) hb); have n15_ := am (bkB (pk BKz59) hb); have n16_ := am (below_step (by repeat first | (with_reducible first | exact HB.out | apply ba | apply bn | apply bd | refine bs (by assumption) ?_) | exact HB.out) hb); have n17_ := am (hbox); have n18_ := ge_ hg (by repeat first | (with_reducible first | exact HB.out | apply ba | apply bn | apply bd | refine bs (by assumption) ?_) | exact HB.out); have n19_ := ge_ hg (by repeat first | (with_reducible first | exact HB.out | apply ba | apply bn | apply bd | refine bs (by assumption) ?_) | exact HB.out); have n20_ := nl_ hg BKz10; have n21_ := ng_ hg BKz10; have n22_ := nl_ hg BKz21; have n23_ := ng_ hg BKz21; have n24_ := nl_ hg BKz43; have n25_ := ng_ hg BKz43; have n26_ := nl_ hg BKz59; have n27_ := ng_ hg BKz59; clear HO_17; clear HO_23; clear HO_z11000; clear HO_z11001; clear HO_z22000; clear HO_z22001; clear HO_z44000; clear HO_z44001; clear HOz54; clear HOz57; clear HOz62; clear HOz65; clear BKz10; clear BKz21; clear BKz43; clear BKz59; clear HB; have HO_17 := n0_; have HO_23 := n1_; have HO_z11000 := n2_; have HO_z11001 := n3_; have HO_z22000 := n4_; have HO_z22001 := n5_; have HO_z44000 := n6_; have HO_z44001 := n7_; have HOz54 := n8_; have HOz57 := n9_; have HOz62 := n10_; have HOz65 := n11_; have BKz10 := n12_; have BKz21 := n13_; have BKz43 := n14_; have BKz59 := n15_; have HB := n16_; have BKz71 := n17_; have GWz71 := n18_; have GEz71 := n19_; have NBz10_z71 := n20_; have NBz71_z10 := n21_; have NBz21_z71 := n22_; have NBz71_z21 := n23_; have NBz43_z71 := n24_; have NBz71_z43 := n25_; have NBz59_z71 := n26_; have NBz71_z59 := n27_; clear n0_ n1_ n2_ n3_ n4_ n5_ n6_ n7_ n8_ n9_ n10_ n11_ n12_ n13_ n14_ n15_ n16_ n17_ n18_ n19_ n20_ n21_ n22_ n23_ n24_ n25_ n26_ n27_; clear hb hbox hg; obtain ⟨Ao97, co97, eo97⟩ := Kd.R_slice HOz62.out; subst eo97; have hnb98 := NBz71_z10.out; have hnc98 := NBz10_z71.out; have hnb99 := NBz71_z21.out; have hnc99 := NBz21_z71.out; have hnb100 := NBz71_z43.out; have hnc100 := NBz43_z71.out; have hnb101 := NBz71_z59.out; have hnc101 := NBz59_z71.out; obtain ⟨hcz102_0, hcz102_1, hcz102_2, hcz102_3, hcz102_4⟩ := bc5 BKz71; obtain ⟨hfz102_0, hfz102_1, hfz102_2, hfz102_3, hfz102_4⟩ := bf5 BKz71; obtain ⟨Ao103, co103, eo103⟩ := Kd.R_slice HOz65.out; subst eo103))
 (try simp only [Act.put, List.setIfInBounds_toArray, List.set_cons_zero, List.set_cons_succ])
 go_cut [153] (fun v153 wc => ∃ (kq : Nat) (x153_81 : Bool), v153 = .bool x153_81 ∧ Aside0 (columbariumlaw15_VaultCrashes.j4 kq l1 l2 tz1 x12_1 x13_4 x14_1 tz26 x19_38 tz31 tz69 x153_81 tz60 tz63 tz66 tz67 tz68 = some r) ∧ Aside0 (kq ≤ k4) ∧ Aside0 (Kd.R k24 24 wc w.heap.size (fun k_ => some k_ ≠ ((.slice Ao14 tz6.length co14) : Value).ownBlock ∧ some k_ ≠ ((.slice Ao44 xz22001_1.length co44) : Value).ownBlock ∧ some k_ ≠ ((.slice Ao61 tz39.length co61) : Value).ownBlock ∧ some k_ ≠ ((.slice Ao94 tz55.length co94) : Value).ownBlock ∧ some k_ ≠ ((.slice Ao103 tz63.length co103) : Value).ownBlock) (.slice Ao53 tz26.length co53) tz26) ∧ Aside0 (Kd.R Kd.string 9 wc w.heap.size (fun k_ => some k_ ≠ ((.slice Ao43 xz22000_1.length co43) : Value).ownBlock ∧ some k_ ≠ ((.slice Ao59 tz36.length co59) : Value).ownBlock ∧ some k_ ≠ ((.slice Ao89 tz52.length co89) : Value).ownBlock ∧ some k_ ≠ ((.slice Ao97 tz60.length co97) : Value).ownBlock) (.slice Ao12 tz3.length co12) tz3) ∧ Aside0 (Kd.R k24 24 wc w.heap.size (fun k_ => some k_ ≠ ((.slice Ao53 tz26.length co53) : Value).ownBlock ∧ some k_ ≠ ((.slice Ao44 xz22001_1.length co44) : Value).ownBlock ∧ some k_ ≠ ((.slice Ao61 tz39.length co61) : Value).ownBlock ∧ some k_ ≠ ((.slice Ao94 tz55.length co94) : Value).ownBlock ∧ some k_ ≠ ((.slice Ao103 tz63.length co103) : Value).ownBlock) (.slice Ao14 tz6.length co14) tz6) ∧ Aside0 (Kd.R Kd.string 9 wc w.heap.size (fun k_ => some k_ ≠ ((.slice Ao12 tz3.length co12) : Value).ownBlock ∧ some k_ ≠ ((.slice Ao59 tz36.length co59) : Value).ownBlock ∧ some k_ ≠ ((.slice Ao89 tz52.length co89) : Value).ownBlock ∧ some k_ ≠ ((.slice Ao97 tz60.length co97) : Value).ownBlock) (.slice Ao43 xz22000_1.length co43) xz22000_1) ∧ Aside0 (Kd.R k24 24 wc w.heap.size (fun k_ => some k_ ≠ ((.slice Ao53 tz26.length co53) : Value).ownBlock ∧ some k_ ≠ ((.slice Ao14 tz6.length co14) : Value).ownBlock ∧ some k_ ≠ ((.slice Ao61 tz39.length co61) : Value).ownBlock ∧ some k_ ≠ ((.slice Ao94 tz55.length co94) : Value).ownBlock ∧ some k_ ≠ ((.slice Ao103 tz63.length co103) : Value).ownBlock) (.slice Ao44 xz22001_1.length co44) xz22001_1) ∧ Aside0 (Kd.R Kd.string 9 wc w.heap.size (fun k_ => some k_ ≠ ((.slice Ao12 tz3.length co12) : Value).ownBlock ∧ some k_ ≠ ((.slice Ao43 xz22000_1.length co43) : Value).ownBlock ∧ some k_ ≠ ((.slice Ao89 tz52.length co89) : Value).ownBlock ∧ some k_ ≠ ((.slice Ao97 tz60.length co97) : Value).ownBlock) (.slice Ao59 tz36.length co59) tz36) ∧ Aside0 (Kd.R k24 24 wc w.heap.size (fun k_ => some k_ ≠ ((.slice Ao53 tz26.length co53) : Value).ownBlock ∧ some k_ ≠ ((.slice Ao14 tz6.length co14) : Value).ownBlock ∧ some k_ ≠ ((.slice Ao44 xz22001_1.length co44) : Value).ownBlock ∧ some k_ ≠ ((.slice Ao94 tz55.length co94) : Value).ownBlock ∧ some k_ ≠ ((.slice Ao103 tz63.length co103) : Value).ownBlock) (.slice Ao61 tz39.length co61) tz39) ∧ Aside0 (Kd.R Kd.string 9 wc w.heap.size (fun k_ => some k_ ≠ ((.slice Ao12 tz3.length co12) : Value).ownBlock ∧ some k_ ≠ ((.slice Ao43 xz22000_1.length co43) : Value).ownBlock ∧ some k_ ≠ ((.slice Ao59 tz36.length co59) : Value).ownBlock ∧ some k_ ≠ ((.slice Ao97 tz60.length co97) : Value).ownBlock) (.slice Ao89 tz52.length co89) tz52) ∧ Aside0 (Kd.R k24 24 wc w.heap.size (fun k_ => some k_ ≠ ((.slice Ao53 tz26.length co53) : Value).ownBlock ∧ some k_ ≠ ((.slice Ao14 tz6.length co14) : Value).ownBlock ∧ some k_ ≠ ((.slice Ao44 xz22001_1.length co44) : Value).ownBlock ∧ some k_ ≠ ((.slice Ao61 tz39.length co61) : Value).ownBlock ∧ some k_ ≠ ((.slice Ao103 tz63.length co103) : Value).ownBlock) (.slice Ao94 tz55.length co94) tz55) ∧ Aside0 (Kd.R Kd.string 9 wc w.heap.size (fun k_ => some k_ ≠ ((.slice Ao12 tz3.length co12) : Value).ownBlock ∧ some k_ ≠ ((.slice Ao43 xz22000_1.length co43) : Value).ownBlock ∧ some k_ ≠ ((.slice Ao59 tz36.length co59) : Value).ownBlock ∧ some k_ ≠ ((.slice Ao89 tz52.length co89) : Value).ownBlock) (.slice Ao97 tz60.length co97) tz60) ∧ Aside0 (Kd.R k24 24 wc w.heap.size (fun k_ => some k_ ≠ ((.slice Ao53 tz26.length co53) : Value).ownBlock ∧ some k_ ≠ ((.slice Ao14 tz6.length co14) : Value).ownBlock ∧ some k_ ≠ ((.slice Ao44 xz22001_1.length co44) : Value).ownBlock ∧ some k_ ≠ ((.slice Ao61 tz39.length co61) : Value).ownBlock ∧ some k_ ≠ ((.slice Ao94 tz55.length co94) : Value).ownBlock) (.slice Ao103 tz63.length co103) tz63) ∧ Aside0 (wc.heap[gbz10]? = some (.cells #[(.slice Ao12 tz3.length co12), (.slice Ao14 tz6.length co14)] 30 (0, 0))) ∧ Aside0 (wc.heap[gbz21]? = some (.cells #[(.slice Ao43 xz22000_1.length co43), (.slice Ao44 xz22001_1.length co44), .int .i64 xz22002_1, .int .i64 xz22003_1, .int .i64 xz22004_1] 56 (0, 0))) ∧ Aside0 (wc.heap[gbz43]? = some (.cells #[(.slice Ao59 tz36.length co59), (.slice Ao61 tz39.length co61)] 30 (0, 0))) ∧ Aside0 (wc.heap[gbz59]? = some (.cells #[(.slice Ao89 tz52.length co89), (.slice Ao94 tz55.length co94)] 30 (0, 0))) ∧ Aside0 (wc.heap[gbz71]? = some (.cells #[(.slice Ao97 tz60.length co97), (.slice Ao103 tz63.length co103), .int .i64 tz66, .int .i64 tz67, .int .i64 tz68] 56 (0, 0))) ∧ Aside0 (Below w.heap.size w wc))
 case first =>
  have H := HC82.out
  clear HC82
  by_cases c104 : tz42 = 0
  rotate_left
  ·rw [if_neg c104] at H
   have c104b0 : (tz42 == 0) = false := beq_eq_false_iff_ne.mpr c104
   have c104b1 : (tz42 != 0) = true := bne_iff_ne.mpr c104
   (first | rw [c104b0] | rw [c104b1] | (simp only [i64_w, i32_w]; rw [c104b0]) | skip)
   have H' := am H
   clear H
   go_wp2
   go_meet
   case rel => exact ⟨_, (true), (by first | rfl | (simp; done) | (simp [*]; done)), H', ⟨by have := HK1.out; have := HJ20.out; have := HJ38.out; have := HK4.out; first | omega | exact Nat.le_refl _⟩, ⟨by (with_reducible repeat first | apply ra | apply rn | apply rd); exact Kd.R_mono (rf5 (Kd.R_types HO_17.out BKz71.out (by decide)) (fun _ hk => hk.2)) (fun _ hk => ⟨hk.1.1.1.1, ⟨hk.1.1.1.2.1, ⟨hk.1.1.1.2.2, ⟨hk.1.1.2, hk.1.2⟩⟩⟩⟩)⟩, ⟨by (with_reducible repeat first | apply ra | apply rn | apply rd); exact Kd.R_mono (rf5 (Kd.R_types HO_z11000.out BKz71.out (by decide)) (fun _ hk => hk.2)) (fun _ hk => ⟨hk.1.1.1.1, ⟨hk.1.1.1.2, ⟨hk.1.1.2, hk.1.2⟩⟩⟩)⟩, ⟨by (with_reducible repeat first | apply ra | apply rn | apply rd); exact Kd.R_mono (rf5 (Kd.R_types HO_z11001.out BKz71.out (by decide)) (fun _ hk => hk.2)) (fun _ hk => ⟨hk.1.1.1.1, ⟨hk.1.1.1.2.1, ⟨hk.1.1.1.2.2, ⟨hk.1.1.2, hk.1.2⟩⟩⟩⟩)⟩, ⟨by (with_reducible repeat first | apply ra | apply rn | apply rd); exact Kd.R_mono (rf5 (Kd.R_types HO_z22000.out BKz71.out (by decide)) (fun _ hk => hk.2)) (fun _ hk => ⟨hk.1.1.1.1, ⟨hk.1.1.1.2, ⟨hk.1.1.2, hk.1.2⟩⟩⟩)⟩, ⟨by (with_reducible repeat first | apply ra | apply rn | apply rd); exact Kd.R_mono (rf5 (Kd.R_types HO_z22001.out BKz71.out (by decide)) (fun _ hk => hk.2)) (fun _ hk => ⟨hk.1.1.1.1, ⟨hk.1.1.1.2.1, ⟨hk.1.1.1.2.2, ⟨hk.1.1.2, hk.1.2⟩⟩⟩⟩)⟩, ⟨by (with_reducible repeat first | apply ra | apply rn | apply rd); exact Kd.R_mono (rf5 (Kd.R_types HO_z44000.out BKz71.out (by decide)) (fun _ hk => hk.2)) (fun _ hk => ⟨hk.1.1.1.1, ⟨hk.1.1.1.2, ⟨hk.1.1.2, hk.1.2⟩⟩⟩)⟩, ⟨by (with_reducible repeat first | apply ra | apply rn | apply rd); exact Kd.R_mono (rf5 (Kd.R_types HO_z44001.out BKz71.out (by decide)) (fun _ hk => hk.2)) (fun _ hk => ⟨hk.1.1.1.1, ⟨hk.1.1.1.2.1, ⟨hk.1.1.1.2.2, ⟨hk.1.1.2, hk.1.2⟩⟩⟩⟩)⟩, ⟨by (with_reducible repeat first | apply ra | apply rn | apply rd); exact Kd.R_mono (rf5 (Kd.R_types HOz54.out BKz71.out (by decide)) (fun _ hk => hk.2)) (fun _ hk => ⟨hk.1.1.1.1.2, ⟨hk.1.1.1.2, ⟨hk.1.1.2, hk.1.2⟩⟩⟩)⟩, ⟨by (with_reducible repeat first | apply ra | apply rn | apply rd); exact Kd.R_mono (rf5 (Kd.R_types HOz57.out BKz71.out (by decide)) (fun _ hk => hk.2)) (fun _ hk => ⟨hk.1.1.1.1.1.2, ⟨hk.1.1.1.1.2, ⟨hk.1.1.1.2, ⟨hk.1.1.2, hk.1.2⟩⟩⟩⟩)⟩, ⟨by (with_reducible repeat first | apply ra | apply rn | apply rd); exact Kd.R_mono (rf5 (Kd.R_types HOz62.out BKz71.out (by decide)) (fun _ hk => hk.2)) (fun _ hk => ⟨hk.1.1.1.1.2, ⟨hk.1.1.1.2, ⟨hk.1.1.2, hk.1.2⟩⟩⟩)⟩, ⟨by (with_reducible repeat first | apply ra | apply rn | apply rd); exact Kd.R_mono (rf5 (Kd.R_types HOz65.out BKz71.out (by decide)) (fun _ hk => hk.2)) (fun _ hk => ⟨hk.1.1.1.1.1.2, ⟨hk.1.1.1.1.2, ⟨hk.1.1.1.2, ⟨hk.1.1.2, hk.1.2⟩⟩⟩⟩)⟩, ⟨by (with_reducible repeat (first | refine blk_drewN ?_ _ | refine bkD ?_ | refine bkA ?_ _)); refine br5 ?_ NBz10_z71; (with_reducible repeat (first | refine blk_drewN ?_ _ | refine bkD ?_ | refine bkA ?_ _)); exact BKz10.out⟩, ⟨by (with_reducible repeat (first | refine blk_drewN ?_ _ | refine bkD ?_ | refine bkA ?_ _)); refine br5 ?_ NBz21_z71; (with_reducible repeat (first | refine blk_drewN ?_ _ | refine bkD ?_ | refine bkA ?_ _)); exact BKz21.out⟩, ⟨by (with_reducible repeat (first | refine blk_drewN ?_ _ | refine bkD ?_ | refine bkA ?_ _)); refine br5 ?_ NBz43_z71; (with_reducible repeat (first | refine blk_drewN ?_ _ | refine bkD ?_ | refine bkA ?_ _)); exact BKz43.out⟩, ⟨by (with_reducible repeat (first | refine blk_drewN ?_ _ | refine bkD ?_ | refine bkA ?_ _)); refine br5 ?_ NBz59_z71; (with_reducible repeat (first | refine blk_drewN ?_ _ | refine bkD ?_ | refine bkA ?_ _)); exact BKz59.out⟩, ⟨by (with_reducible repeat (first | refine blk_drewN ?_ _ | refine bkD ?_ | refine bkA ?_ _)); apply bp5; (with_reducible repeat (first | refine blk_drewN ?_ _ | refine bkD ?_ | refine bkA ?_ _)); exact BKz71.out⟩, ⟨by repeat first | (with_reducible first | exact HB.out | apply ba | apply bn | apply bd | refine bs (by assumption) ?_) | exact HB.out⟩⟩
  rw [if_pos c104] at H
  have c104b0 : (tz42 == 0) = true := beq_iff_eq.mpr c104
  have c104b1 : (tz42 != 0) = false := bne_eq_false_iff_eq.mpr c104
  clear c104
  (first | rw [c104b0] | rw [c104b1] | (simp only [i64_w, i32_w]; rw [c104b0]) | skip)
  by_cases c105 : tz58 = 0
  rotate_left
  ·rw [if_neg c105] at H
   have c105b0 : (tz58 == 0) = false := beq_eq_false_iff_ne.mpr c105
   have c105b1 : (tz58 != 0) = true := bne_iff_ne.mpr c105
   have H' := am H
   clear H
   go_wp2
   go_meet
   case rel => exact ⟨_, (true), (by first | rfl | (simp; done) | (simp [*]; done)), H', ⟨by have := HK1.out; have := HJ20.out; have := HJ38.out; have := HK4.out; first | omega | exact Nat.le_refl _⟩, ⟨by (with_reducible repeat first | apply ra | apply rn | apply rd); exact Kd.R_mono (rf5 (Kd.R_types HO_17.out BKz71.out (by decide)) (fun _ hk => hk.2)) (fun _ hk => ⟨hk.1.1.1.1, ⟨hk.1.1.1.2.1, ⟨hk.1.1.1.2.2, ⟨hk.1.1.2, hk.1.2⟩⟩⟩⟩)⟩, ⟨by (with_reducible repeat first | apply ra | apply rn | apply rd); exact Kd.R_mono (rf5 (Kd.R_types HO_z11000.out BKz71.out (by decide)) (fun _ hk => hk.2)) (fun _ hk => ⟨hk.1.1.1.1, ⟨hk.1.1.1.2, ⟨hk.1.1.2, hk.1.2⟩⟩⟩)⟩, ⟨by (with_reducible repeat first | apply ra | apply rn | apply rd); exact Kd.R_mono (rf5 (Kd.R_types HO_z11001.out BKz71.out (by decide)) (fun _ hk => hk.2)) (fun _ hk => ⟨hk.1.1.1.1, ⟨hk.1.1.1.2.1, ⟨hk.1.1.1.2.2, ⟨hk.1.1.2, hk.1.2⟩⟩⟩⟩)⟩, ⟨by (with_reducible repeat first | apply ra | apply rn | apply rd); exact Kd.R_mono (rf5 (Kd.R_types HO_z22000.out BKz71.out (by decide)) (fun _ hk => hk.2)) (fun _ hk => ⟨hk.1.1.1.1, ⟨hk.1.1.1.2, ⟨hk.1.1.2, hk.1.2⟩⟩⟩)⟩, ⟨by (with_reducible repeat first | apply ra | apply rn | apply rd); exact Kd.R_mono (rf5 (Kd.R_types HO_z22001.out BKz71.out (by decide)) (fun _ hk => hk.2)) (fun _ hk => ⟨hk.1.1.1.1, ⟨hk.1.1.1.2.1, ⟨hk.1.1.1.2.2, ⟨hk.1.1.2, hk.1.2⟩⟩⟩⟩)⟩, ⟨by (with_reducible repeat first | apply ra | apply rn | apply rd); exact Kd.R_mono (rf5 (Kd.R_types HO_z44000.out BKz71.out (by decide)) (fun _ hk => hk.2)) (fun _ hk => ⟨hk.1.1.1.1, ⟨hk.1.1.1.2, ⟨hk.1.1.2, hk.1.2⟩⟩⟩)⟩, ⟨by (with_reducible repeat first | apply ra | apply rn | apply rd); exact Kd.R_mono (rf5 (Kd.R_types HO_z44001.out BKz71.out (by decide)) (fun _ hk => hk.2)) (fun _ hk => ⟨hk.1.1.1.1, ⟨hk.1.1.1.2.1, ⟨hk.1.1.1.2.2, ⟨hk.1.1.2, hk.1.2⟩⟩⟩⟩)⟩, ⟨by (with_reducible repeat first | apply ra | apply rn | apply rd); exact Kd.R_mono (rf5 (Kd.R_types HOz54.out BKz71.out (by decide)) (fun _ hk => hk.2)) (fun _ hk => ⟨hk.1.1.1.1.2, ⟨hk.1.1.1.2, ⟨hk.1.1.2, hk.1.2⟩⟩⟩)⟩, ⟨by (with_reducible repeat first | apply ra | apply rn | apply rd); exact Kd.R_mono (rf5 (Kd.R_types HOz57.out BKz71.out (by decide)) (fun _ hk => hk.2)) (fun _ hk => ⟨hk.1.1.1.1.1.2, ⟨hk.1.1.1.1.2, ⟨hk.1.1.1.2, ⟨hk.1.1.2, hk.1.2⟩⟩⟩⟩)⟩, ⟨by (with_reducible repeat first | apply ra | apply rn | apply rd); exact Kd.R_mono (rf5 (Kd.R_types HOz62.out BKz71.out (by decide)) (fun _ hk => hk.2)) (fun _ hk => ⟨hk.1.1.1.1.2, ⟨hk.1.1.1.2, ⟨hk.1.1.2, hk.1.2⟩⟩⟩)⟩, ⟨by (with_reducible repeat first | apply ra | apply rn | apply rd); exact Kd.R_mono (rf5 (Kd.R_types HOz65.out BKz71.out (by decide)) (fun _ hk => hk.2)) (fun _ hk => ⟨hk.1.1.1.1.1.2, ⟨hk.1.1.1.1.2, ⟨hk.1.1.1.2, ⟨hk.1.1.2, hk.1.2⟩⟩⟩⟩)⟩, ⟨by (with_reducible repeat (first | refine blk_drewN ?_ _ | refine bkD ?_ | refine bkA ?_ _)); refine br5 ?_ NBz10_z71; (with_reducible repeat (first | refine blk_drewN ?_ _ | refine bkD ?_ | refine bkA ?_ _)); exact BKz10.out⟩, ⟨by (with_reducible repeat (first | refine blk_drewN ?_ _ | refine bkD ?_ | refine bkA ?_ _)); refine br5 ?_ NBz21_z71; (with_reducible repeat (first | refine blk_drewN ?_ _ | refine bkD ?_ | refine bkA ?_ _)); exact BKz21.out⟩, ⟨by (with_reducible repeat (first | refine blk_drewN ?_ _ | refine bkD ?_ | refine bkA ?_ _)); refine br5 ?_ NBz43_z71; (with_reducible repeat (first | refine blk_drewN ?_ _ | refine bkD ?_ | refine bkA ?_ _)); exact BKz43.out⟩, ⟨by (with_reducible repeat (first | refine blk_drewN ?_ _ | refine bkD ?_ | refine bkA ?_ _)); refine br5 ?_ NBz59_z71; (with_reducible repeat (first | refine blk_drewN ?_ _ | refine bkD ?_ | refine bkA ?_ _)); exact BKz59.out⟩, ⟨by (with_reducible repeat (first | refine blk_drewN ?_ _ | refine bkD ?_ | refine bkA ?_ _)); apply bp5; (with_reducible repeat (first | refine blk_drewN ?_ _ | refine bkD ?_ | refine bkA ?_ _)); exact BKz71.out⟩, ⟨by repeat first | (with_reducible first | exact HB.out | apply ba | apply bn | apply bd | refine bs (by assumption) ?_) | exact HB.out⟩⟩
  rw [if_pos c105] at H
  have c105b0 : (tz58 == 0) = true := beq_iff_eq.mpr c105
  have c105b1 : (tz58 != 0) = false := bne_eq_false_iff_eq.mpr c105
  clear c105
  by_cases c106 : tz70 = 0
  rotate_left
  ·rw [if_neg c106] at H
   have c106b0 : (tz70 == 0) = false := beq_eq_false_iff_ne.mpr c106
   have c106b1 : (tz70 != 0) = true := bne_iff_ne.mpr c106
   have H' := am H
   clear H
   go_wp2
   go_meet
   case rel => exact ⟨_, (true), (by first | rfl | (simp; done) | (simp [*]; done)), H', ⟨by have := HK1.out; have := HJ20.out; have := HJ38.out; have := HK4.out; first | omega | exact Nat.le_refl _⟩, ⟨by (with_reducible repeat first | apply ra | apply rn | apply rd); exact Kd.R_mono (rf5 (Kd.R_types HO_17.out BKz71.out (by decide)) (fun _ hk => hk.2)) (fun _ hk => ⟨hk.1.1.1.1, ⟨hk.1.1.1.2.1, ⟨hk.1.1.1.2.2, ⟨hk.1.1.2, hk.1.2⟩⟩⟩⟩)⟩, ⟨by (with_reducible repeat first | apply ra | apply rn | apply rd); exact Kd.R_mono (rf5 (Kd.R_types HO_z11000.out BKz71.out (by decide)) (fun _ hk => hk.2)) (fun _ hk => ⟨hk.1.1.1.1, ⟨hk.1.1.1.2, ⟨hk.1.1.2, hk.1.2⟩⟩⟩)⟩, ⟨by (with_reducible repeat first | apply ra | apply rn | apply rd); exact Kd.R_mono (rf5 (Kd.R_types HO_z11001.out BKz71.out (by decide)) (fun _ hk => hk.2)) (fun _ hk => ⟨hk.1.1.1.1, ⟨hk.1.1.1.2.1, ⟨hk.1.1.1.2.2, ⟨hk.1.1.2, hk.1.2⟩⟩⟩⟩)⟩, ⟨by (with_reducible repeat first | apply ra | apply rn | apply rd); exact Kd.R_mono (rf5 (Kd.R_types HO_z22000.out BKz71.out (by decide)) (fun _ hk => hk.2)) (fun _ hk => ⟨hk.1.1.1.1, ⟨hk.1.1.1.2, ⟨hk.1.1.2, hk.1.2⟩⟩⟩)⟩, ⟨by (with_reducible repeat first | apply ra | apply rn | apply rd); exact Kd.R_mono (rf5 (Kd.R_types HO_z22001.out BKz71.out (by decide)) (fun _ hk => hk.2)) (fun _ hk => ⟨hk.1.1.1.1, ⟨hk.1.1.1.2.1, ⟨hk.1.1.1.2.2, ⟨hk.1.1.2, hk.1.2⟩⟩⟩⟩)⟩, ⟨by (with_reducible repeat first | apply ra | apply rn | apply rd); exact Kd.R_mono (rf5 (Kd.R_types HO_z44000.out BKz71.out (by decide)) (fun _ hk => hk.2)) (fun _ hk => ⟨hk.1.1.1.1, ⟨hk.1.1.1.2, ⟨hk.1.1.2, hk.1.2⟩⟩⟩)⟩, ⟨by (with_reducible repeat first | apply ra | apply rn | apply rd); exact Kd.R_mono (rf5 (Kd.R_types HO_z44001.out BKz71.out (by decide)) (fun _ hk => hk.2)) (fun _ hk => ⟨hk.1.1.1.1, ⟨hk.1.1.1.2.1, ⟨hk.1.1.1.2.2, ⟨hk.1.1.2, hk.1.2⟩⟩⟩⟩)⟩, ⟨by (with_reducible repeat first | apply ra | apply rn | apply rd); exact Kd.R_mono (rf5 (Kd.R_types HOz54.out BKz71.out (by decide)) (fun _ hk => hk.2)) (fun _ hk => ⟨hk.1.1.1.1.2, ⟨hk.1.1.1.2, ⟨hk.1.1.2, hk.1.2⟩⟩⟩)⟩, ⟨by (with_reducible repeat first | apply ra | apply rn | apply rd); exact Kd.R_mono (rf5 (Kd.R_types HOz57.out BKz71.out (by decide)) (fun _ hk => hk.2)) (fun _ hk => ⟨hk.1.1.1.1.1.2, ⟨hk.1.1.1.1.2, ⟨hk.1.1.1.2, ⟨hk.1.1.2, hk.1.2⟩⟩⟩⟩)⟩, ⟨by (with_reducible repeat first | apply ra | apply rn | apply rd); exact Kd.R_mono (rf5 (Kd.R_types HOz62.out BKz71.out (by decide)) (fun _ hk => hk.2)) (fun _ hk => ⟨hk.1.1.1.1.2, ⟨hk.1.1.1.2, ⟨hk.1.1.2, hk.1.2⟩⟩⟩)⟩, ⟨by (with_reducible repeat first | apply ra | apply rn | apply rd); exact Kd.R_mono (rf5 (Kd.R_types HOz65.out BKz71.out (by decide)) (fun _ hk => hk.2)) (fun _ hk => ⟨hk.1.1.1.1.1.2, ⟨hk.1.1.1.1.2, ⟨hk.1.1.1.2, ⟨hk.1.1.2, hk.1.2⟩⟩⟩⟩)⟩, ⟨by (with_reducible repeat (first | refine blk_drewN ?_ _ | refine bkD ?_ | refine bkA ?_ _)); refine br5 ?_ NBz10_z71; (with_reducible repeat (first | refine blk_drewN ?_ _ | refine bkD ?_ | refine bkA ?_ _)); exact BKz10.out⟩, ⟨by (with_reducible repeat (first | refine blk_drewN ?_ _ | refine bkD ?_ | refine bkA ?_ _)); refine br5 ?_ NBz21_z71; (with_reducible repeat (first | refine blk_drewN ?_ _ | refine bkD ?_ | refine bkA ?_ _)); exact BKz21.out⟩, ⟨by (with_reducible repeat (first | refine blk_drewN ?_ _ | refine bkD ?_ | refine bkA ?_ _)); refine br5 ?_ NBz43_z71; (with_reducible repeat (first | refine blk_drewN ?_ _ | refine bkD ?_ | refine bkA ?_ _)); exact BKz43.out⟩, ⟨by (with_reducible repeat (first | refine blk_drewN ?_ _ | refine bkD ?_ | refine bkA ?_ _)); refine br5 ?_ NBz59_z71; (with_reducible repeat (first | refine blk_drewN ?_ _ | refine bkD ?_ | refine bkA ?_ _)); exact BKz59.out⟩, ⟨by (with_reducible repeat (first | refine blk_drewN ?_ _ | refine bkD ?_ | refine bkA ?_ _)); apply bp5; (with_reducible repeat (first | refine blk_drewN ?_ _ | refine bkD ?_ | refine bkA ?_ _)); exact BKz71.out⟩, ⟨by repeat first | (with_reducible first | exact HB.out | apply ba | apply bn | apply bd | refine bs (by assumption) ?_) | exact HB.out⟩⟩
  rw [if_pos c106] at H
  have c106b0 : (tz70 == 0) = true := beq_iff_eq.mpr c106
  have c106b1 : (tz70 != 0) = false := bne_eq_false_iff_eq.mpr c106
  clear c106
  replace H := ob_ H
  obtain ⟨tz72, A1070, H⟩ := H
  replace H : (columbariumlaw15_VaultCrashes.j4 k4 l1 l2 tz1 x12_1 x13_4 x14_1 tz26 x19_38 tz31 tz69 (!tz72) tz60 tz63 tz66 tz67 tz68) = some r := H
  have A107 := Aside0.mk A1070
  clear A1070
  have H' := am H
  clear H
  have hnb108 := NBz71_z10.out
  have hnc108 := NBz10_z71.out
  have hnb109 := NBz71_z21.out
  have hnc109 := NBz21_z71.out
  have hnb110 := NBz71_z43.out
  have hnc110 := NBz43_z71.out
  have hnb111 := NBz71_z59.out
  have hnc111 := NBz59_z71.out
  obtain ⟨hcz112_0, hcz112_1, hcz112_2, hcz112_3, hcz112_4⟩ := bc5 BKz71
  obtain ⟨hfz112_0, hfz112_1, hfz112_2, hfz112_3, hfz112_4⟩ := bf5 BKz71
  go_wp2_with (first | (go_at_call 36; (with_reducible refine (vault_Right.calls _ _ tz60 _ _ tz63 tz66 tz67 tz68 tz72 _ ?side1 ?side2 ?side3 ?side4 A107.out).mono ?_); (case side1 => refine (Kd.R_reads' (e := 9) (base := w.heap.size) (ok := fun k_ => ((((True ∧ some k_ ≠ (.slice Ao12 tz3.length co12 : Value).ownBlock) ∧ some k_ ≠ (.slice Ao43 xz22000_1.length co43 : Value).ownBlock) ∧ some k_ ≠ (.slice Ao59 tz36.length co59 : Value).ownBlock) ∧ some k_ ≠ (.slice Ao89 tz52.length co89 : Value).ownBlock)) (n := tz60.length) (c := co97) ?_).2.2; exact (by (with_reducible repeat first | apply ra | apply rn | apply rd); exact (rs5 HOz62 BKz71 (by decide)))); (case side2 => exact (Kd.R_reads' HOz62.out).2.1); (case side3 => refine (Kd.R_reads' (e := 24) (base := w.heap.size) (ok := fun k_ => (((((True ∧ some k_ ≠ (.slice Ao53 tz26.length co53 : Value).ownBlock) ∧ some k_ ≠ (.slice Ao14 tz6.length co14 : Value).ownBlock) ∧ some k_ ≠ (.slice Ao44 xz22001_1.length co44 : Value).ownBlock) ∧ some k_ ≠ (.slice Ao61 tz39.length co61 : Value).ownBlock) ∧ some k_ ≠ (.slice Ao94 tz55.length co94 : Value).ownBlock)) (n := tz63.length) (c := co103) ?_).2.2; exact (by (with_reducible repeat first | apply ra | apply rn | apply rd); exact (rs5 HOz65 BKz71 (by decide)))); (case side4 => exact (Kd.R_reads' HOz65.out).2.1); rintro e w113 ⟨rfl, hb⟩; have n0_ := am (Kd.R_below (by (with_reducible repeat first | apply ra | apply rn | apply rd); exact (rs5 HO_17 BKz71 (by decide))) hb); have n1_ := am (Kd.R_below (by (with_reducible repeat first | apply ra | apply rn | apply rd); exact (rs5 HO_23 BKz71 (by decide))) hb); have n2_ := am (Kd.R_below (by (with_reducible repeat first | apply ra | apply rn | apply rd); exact (rs5 HO_z11000 BKz71 (by decide))) hb); have n3_ := am (Kd.R_below (by (with_reducible repeat first | apply ra | apply rn | apply rd); exact (rs5 HO_z11001 BKz71 (by decide))) hb); have n4_ := am (Kd.R_below (by (with_reducible repeat first | apply ra | apply rn | apply rd); exact (rs5 HO_z22000 BKz71 (by decide))) hb); have n5_ := am (Kd.R_below (by (with_reducible repeat first | apply ra | apply rn | apply rd); exact (rs5 HO_z22001 BKz71 (by decide))) hb); have n6_ := am (Kd.R_below (by (with_reducible repeat first | apply ra | apply rn | apply rd); exact (rs5 HO_z44000 BKz71 (by decide))) hb); have n7_ := am (Kd.R_below (by (with_reducible repeat first | apply ra | apply rn | apply rd); exact (rs5 HO_z44001 BKz71 (by decide))) hb); have n8_ := am (Kd.R_below (by (with_reducible repeat first | apply ra | apply rn | apply rd); exact (rs5 HOz54 BKz71 (by decide))) hb); have n9_ := am (Kd.R_below (by (with_reducible repeat first | apply ra | apply rn | apply rd); exact (rs5 HOz57 BKz71 (by decide))) hb); have n10_ := am (Kd.R_below (by (with_reducible repeat first | apply ra | apply rn | apply rd); exact (rs5 HOz62 BKz71 (by decide))) hb); have n11_ := am (Kd.R_below (by (with_reducible repeat first | apply ra | apply rn | apply rd); exact (rs5 HOz65 BKz71 (by decide))) hb); have n12_ := am (bkB (g := gbz10) (o := .cells #[.slice Ao12 tz3.length co12, .slice Ao14 tz6.length co14] 30 (0, 0)) (by (with_reducible repeat (first | refine blk_drewN ?_ _ | refine bkD ?_ | refine bkA ?_ _)); refine br5 ?_ NBz10_z71; exact pk BKz10) hb); have n13_ := am (bkB (g := gbz21) (o := .cells #[.slice Ao43 xz22000_1.length co43, .slice Ao44 xz22001_1.length co44, .int .i64 xz22002_1, .int .i64 xz22003_1, .int .i64 xz22004_1] 56 (0, 0)) (by (with_reducible repeat (first | refine blk_drewN ?_ _ | refine bkD ?_ | refine bkA ?_ _)); refine br5 ?_ NBz21_z71; exact pk BKz21) hb); have n14_ := am (bkB (g := gbz43) (o := .cells #[.slice Ao59 tz36.length co59, .slice Ao61 tz39.length co61] 30 (0, 0)) (by (with_reducible repeat (first | refine blk_drewN ?_ _ | refine bkD ?_ | refine bkA ?_ _)); refine br5 ?_ NBz43_z71; exact pk BKz43) hb); have n15_ := am (bkB (g := gbz59) (o := .cells #[.slice Ao89 tz52.length co89, .slice Ao94 tz55.length co94] 30 (0, 0)) (by (with_reducible repeat (first | refine blk_drewN ?_ _ | refine bkD ?_ | refine bkA ?_ _)); refine br5 ?_ NBz59_z71; exact pk BKz59) hb); have n16_ := am (bkB (g := gbz71) (o := .cells #[.slice Ao97 tz60.length co97, .slice Ao103 tz63.length co103, .int .i64 tz66, .int .i64 tz67, .int .i64 tz68] 56 (0, 0)) (by (with_reducible repeat (first | refine blk_drewN ?_ _ | refine bkD ?_ | refine bkA ?_ _)); apply bp5; exact pk BKz71) hb); have n17_ := am (below_step (by repeat first | (with_reducible first | exact HB.out | apply ba | apply bn | apply bd | refine bs (by assumption) ?_) | exact HB.out) hb); clear HO_17; clear HO_23; clear HO_z11000; clear HO_z11001; clear HO_z22000; clear HO_z22001; clear HO_z44000; clear HO_z44001; clear HOz54; clear HOz57; clear HOz62; clear HOz65; clear BKz10; clear BKz21; clear BKz43; clear BKz59; clear BKz71; clear HB; have HO_17 := n0_; have HO_23 := n1_; have HO_z11000 := n2_; have HO_z11001 := n3_; have HO_z22000 := n4_; have HO_z22001 := n5_; have HO_z44000 := n6_; have HO_z44001 := n7_; have HOz54 := n8_; have HOz57 := n9_; have HOz62 := n10_; have HOz65 := n11_; have BKz10 := n12_; have BKz21 := n13_; have BKz43 := n14_; have BKz59 := n15_; have BKz71 := n16_; have HB := n17_; clear n0_ n1_ n2_ n3_ n4_ n5_ n6_ n7_ n8_ n9_ n10_ n11_ n12_ n13_ n14_ n15_ n16_ n17_; (try clear hi)))
  go_meet
  case rel => exact ⟨_, (!tz72), (by first | rfl | (simp; done) | (simp [*]; done)), H', ⟨by have := HK1.out; have := HJ20.out; have := HJ38.out; have := HK4.out; first | omega | exact Nat.le_refl _⟩, ⟨by (with_reducible repeat first | apply ra | apply rn | apply rd); exact Kd.R_mono HO_17.out (fun _ hk => ⟨hk.1.1.1, ⟨hk.1.1.2.1, ⟨hk.1.1.2.2, ⟨hk.1.2, hk.2⟩⟩⟩⟩)⟩, ⟨by (with_reducible repeat first | apply ra | apply rn | apply rd); exact Kd.R_mono HO_z11000.out (fun _ hk => ⟨hk.1.1.1, ⟨hk.1.1.2, ⟨hk.1.2, hk.2⟩⟩⟩)⟩, ⟨by (with_reducible repeat first | apply ra | apply rn | apply rd); exact Kd.R_mono HO_z11001.out (fun _ hk => ⟨hk.1.1.1, ⟨hk.1.1.2.1, ⟨hk.1.1.2.2, ⟨hk.1.2, hk.2⟩⟩⟩⟩)⟩, ⟨by (with_reducible repeat first | apply ra | apply rn | apply rd); exact Kd.R_mono HO_z22000.out (fun _ hk => ⟨hk.1.1.1, ⟨hk.1.1.2, ⟨hk.1.2, hk.2⟩⟩⟩)⟩, ⟨by (with_reducible repeat first | apply ra | apply rn | apply rd); exact Kd.R_mono HO_z22001.out (fun _ hk => ⟨hk.1.1.1, ⟨hk.1.1.2.1, ⟨hk.1.1.2.2, ⟨hk.1.2, hk.2⟩⟩⟩⟩)⟩, ⟨by (with_reducible repeat first | apply ra | apply rn | apply rd); exact Kd.R_mono HO_z44000.out (fun _ hk => ⟨hk.1.1.1, ⟨hk.1.1.2, ⟨hk.1.2, hk.2⟩⟩⟩)⟩, ⟨by (with_reducible repeat first | apply ra | apply rn | apply rd); exact Kd.R_mono HO_z44001.out (fun _ hk => ⟨hk.1.1.1, ⟨hk.1.1.2.1, ⟨hk.1.1.2.2, ⟨hk.1.2, hk.2⟩⟩⟩⟩)⟩, ⟨by (with_reducible repeat first | apply ra | apply rn | apply rd); exact Kd.R_mono HOz54.out (fun _ hk => ⟨hk.1.1.1.2, ⟨hk.1.1.2, ⟨hk.1.2, hk.2⟩⟩⟩)⟩, ⟨by (with_reducible repeat first | apply ra | apply rn | apply rd); exact Kd.R_mono HOz57.out (fun _ hk => ⟨hk.1.1.1.1.2, ⟨hk.1.1.1.2, ⟨hk.1.1.2, ⟨hk.1.2, hk.2⟩⟩⟩⟩)⟩, ⟨by (with_reducible repeat first | apply ra | apply rn | apply rd); exact Kd.R_mono HOz62.out (fun _ hk => ⟨hk.1.1.1.2, ⟨hk.1.1.2, ⟨hk.1.2, hk.2⟩⟩⟩)⟩, ⟨by (with_reducible repeat first | apply ra | apply rn | apply rd); exact Kd.R_mono HOz65.out (fun _ hk => ⟨hk.1.1.1.1.2, ⟨hk.1.1.1.2, ⟨hk.1.1.2, ⟨hk.1.2, hk.2⟩⟩⟩⟩)⟩, ⟨by (with_reducible repeat (first | refine blk_drewN ?_ _ | refine bkD ?_ | refine bkA ?_ _)); exact BKz10.out⟩, ⟨by (with_reducible repeat (first | refine blk_drewN ?_ _ | refine bkD ?_ | refine bkA ?_ _)); exact BKz21.out⟩, ⟨by (with_reducible repeat (first | refine blk_drewN ?_ _ | refine bkD ?_ | refine bkA ?_ _)); exact BKz43.out⟩, ⟨by (with_reducible repeat (first | refine blk_drewN ?_ _ | refine bkD ?_ | refine bkA ?_ _)); exact BKz59.out⟩, ⟨by (with_reducible repeat (first | refine blk_drewN ?_ _ | refine bkD ?_ | refine bkA ?_ _)); exact BKz71.out⟩, ⟨by repeat first | (with_reducible first | exact HB.out | apply ba | apply bn | apply bd | refine bs (by assumption) ?_) | exact HB.out⟩⟩
 clear HC82
 try clear c1
 try clear c2
 try clear p2
 try clear c3
 try clear c4
 try clear c5
 try clear q5
 try clear c6
 try clear p6
 try clear c7
 try clear c8
 try clear c8b0
 try clear c8b1
 try clear c9
 try clear p9
 try clear q9
 try clear hx9
 try clear c10
 try clear c11
 try clear c14
 try clear c17
 try clear c18
 try clear c22
 try clear c22b0
 try clear c22b1
 try clear c23
 try clear c24
 try clear c24b0
 try clear c25
 try clear c25b0
 try clear c27
 try clear c28
 try clear c29
 try clear c29b0
 try clear c29b1
 try clear c30
 try clear c31
 try clear c32
 try clear c35
 try clear c36
 try clear c36b0
 try clear c36b1
 try clear c37
 try clear c37b0
 try clear c37b1
 try clear c37b2
 try clear c41
 try clear c46
 try clear c46b0
 try clear c46b1
 try clear c47
 try clear c47b0
 try clear c48
 try clear c48b0
 try clear c50
 try clear c50b0
 try clear c50b1
 try clear c51
 try clear c51b0
 try clear c51b1
 try clear q55
 try clear c63
 try clear c63b0
 try clear c64
 try clear c64b0
 try clear c64b1
 try clear p64
 try clear c65
 try clear c65b0
 try clear c65b1
 try clear c65b2
 try clear c67
 try clear c67b0
 try clear c68
 try clear c68b0
 try clear c70
 try clear c71
 try clear c72
 try clear c75
 try clear c76
 try clear c77
 try clear c83
 try clear c84
 try clear c90
 try clear p90
 try clear q90
 try clear hx90
 try clear c91
 try clear c92
 try clear c98
 try clear c99
 try clear c100
 try clear c101
 try clear c104
 try clear c104b0
 try clear c104b1
 try clear c105
 try clear c105b0
 try clear c105b1
 try clear c106
 try clear c106b0
 try clear c106b1
 try clear c108
 try clear c109
 try clear c110
 try clear c111
 try clear hcz102_0
 try clear hcz102_1
 try clear hcz102_2
 try clear hcz102_3
 try clear hcz102_4
 try clear hcz112_0
 try clear hcz112_1
 try clear hcz112_2
 try clear hcz112_3
 try clear hcz112_4
 try clear hcz13_0
 try clear hcz13_1
 try clear hcz19_0
 try clear hcz19_1
 try clear hcz19_2
 try clear hcz19_3
 try clear hcz19_4
 try clear hcz32_0
 try clear hcz32_1
 try clear hcz32_2
 try clear hcz32_3
 try clear hcz32_4
 try clear hcz42_0
 try clear hcz42_1
 try clear hcz42_2
 try clear hcz42_3
 try clear hcz42_4
 try clear hcz73_0
 try clear hcz73_1
 try clear hcz78_0
 try clear hcz78_1
 try clear hcz85_0
 try clear hcz85_1
 try clear hcz93_0
 try clear hcz93_1
 try clear hfz102_0
 try clear hfz102_1
 try clear hfz102_2
 try clear hfz102_3
 try clear hfz102_4
 try clear hfz112_0
 try clear hfz112_1
 try clear hfz112_2
 try clear hfz112_3
 try clear hfz112_4
 try clear hfz13_0
 try clear hfz13_1
 try clear hfz19_0
 try clear hfz19_1
 try clear hfz19_2
 try clear hfz19_3
 try clear hfz19_4
 try clear hfz32_0
 try clear hfz32_1
 try clear hfz32_2
 try clear hfz32_3
 try clear hfz32_4
 try clear hfz42_0
 try clear hfz42_1
 try clear hfz42_2
 try clear hfz42_3
 try clear hfz42_4
 try clear hfz73_0
 try clear hfz73_1
 try clear hfz78_0
 try clear hfz78_1
 try clear hfz85_0
 try clear hfz85_1
 try clear hfz93_0
 try clear hfz93_1
 try clear hxz22_0
 try clear hxz22_1
 try clear hxz22_2
 try clear hxz24_0
 try clear hxz24_1
 try clear hxz24_2
 try clear hxz30_0
 try clear hxz30_1
 try clear hxz30_2
 try clear hxz44_0
 try clear p2
 try clear p6
 try clear p9
 try clear pz22
 try clear pz24
 try clear pz30
 try clear pz44
 try clear q5
 try clear q55
 try clear q9
 try clear qz22
 try clear qz24
 try clear qz30
 try clear qz44
 obtain ⟨kq, x153_81, rfl, HA, HJ81, HO_17, HO_z11000, HO_z11001, HO_z22000, HO_z22001, HO_z44000, HO_z44001, HO_z60000, HO_z60001, HO_z72000, HO_z72001, BKz10, BKz21, BKz43, BKz59, BKz71, HB⟩ := hcut
 cases kq with
 | zero => exact absurd HA.out (by simp [columbariumlaw15_VaultCrashes.j4])
 | succ kj81 => ?_
 have H := HA.out
 clear HA
 simp only [columbariumlaw15_VaultCrashes.j4] at H
 by_cases c114 : x153_81 = true
 ·subst c114
  have H1 : (none) = some r := by rw [if_pos rfl] at H; exact H
  clear H
  have H := H1
  clear H1
  exact absurd H (by simp)
 replace c114 := Bool.eq_false_iff.mpr c114
 subst c114
 have H1 : (if tz69.toList = x19_38.toList then (columbariumlaw15_VaultCrashes.l0 kj81 l1 l2 tz1 tz69 x13_4 (wrap64 (x14_1 + 1)) tz60 tz63 tz66 tz67 tz68) else (if tz69.toList = x12_1.toList then (if tz31 = (tz26.length : Int) then (none) else (columbariumlaw15_VaultCrashes.l0 kj81 l1 l2 tz1 tz69 x13_4 (wrap64 (x14_1 + 1)) tz60 tz63 tz66 tz67 tz68)) else (none))) = some r := by rw [if_neg (show ¬ (false = true) by decide)] at H; exact H
 clear H
 have H := H1
 clear H1
 by_cases c115 : tz69.toList = x19_38.toList
 ·rw [if_pos c115] at H
  have c115b0 : (tz69.toList == x19_38.toList) = true := beq_iff_eq.mpr c115
  have c115b1 : (tz69.toList != x19_38.toList) = false := bne_eq_false_iff_eq.mpr c115
  clear c115
  have H' := am H
  clear H
  have hnb116 := NBz71_z10.out
  have hnc116 := NBz10_z71.out
  have hnb117 := NBz71_z21.out
  have hnc117 := NBz21_z71.out
  have hnb118 := NBz71_z43.out
  have hnc118 := NBz43_z71.out
  have hnb119 := NBz71_z59.out
  have hnc119 := NBz59_z71.out
  obtain ⟨hcz120_0, hcz120_1, hcz120_2, hcz120_3, hcz120_4⟩ := bc5 BKz71
  obtain ⟨hfz120_0, hfz120_1, hfz120_2, hfz120_3, hfz120_4⟩ := bf5 BKz71
  have hnb121 := NBz21_z10.out
  have hnc121 := NBz10_z21.out
  have hnb122 := NBz21_z43.out
  have hnc122 := NBz43_z21.out
  have hnb123 := NBz21_z59.out
  have hnc123 := NBz59_z21.out
  obtain ⟨hcz124_0, hcz124_1, hcz124_2, hcz124_3, hcz124_4⟩ := bc5 BKz21
  obtain ⟨hfz124_0, hfz124_1, hfz124_2, hfz124_3, hfz124_4⟩ := bf5 BKz21
  go_wp2
  go_roundg kj81
  case measure => have := HK1.out; have := HJ20.out; have := HJ38.out; have := HK4.out; have := HJ81.out; omega
  case rel => exact ⟨(tz69), (x13_4), (wrap64 (x14_1 + 1)), (tz60), (tz63), (tz66), (tz67), (tz68), (.slice Ao97 tz60.length co97), (.slice Ao103 tz63.length co103), (by first | rfl | (simp; done) | (simp [*]; done)), (by first | rfl | (simp; done) | (simp [*]; done)), (by first | rfl | (simp; done) | (simp [*]; done)), H', ⟨by have := HK1.out; have := HJ20.out; have := HJ38.out; have := HK4.out; have := HJ81.out; omega⟩, ⟨by (with_reducible repeat first | apply ra | apply rn | apply rd); exact Kd.R_mono (rf5 (Kd.R_types HO_z11000.out BKz21.out (by decide)) (fun _ hk => hk.2)) (fun _ hk => hk.1.2.2.2)⟩, ⟨by (with_reducible repeat first | apply ra | apply rn | apply rd); exact Kd.R_mono (rf5 (Kd.R_types HO_z11001.out BKz21.out (by decide)) (fun _ hk => hk.2)) (fun _ hk => hk.1.2.2.2.2)⟩, ⟨by (with_reducible repeat first | apply ra | apply rn | apply rd); exact Kd.R_mono (rf5 (Kd.R_types HO_z72000.out BKz21.out (by decide)) (fun _ hk => hk.2)) (fun _ hk => hk.1.1)⟩, ⟨by (with_reducible repeat first | apply ra | apply rn | apply rd); exact Kd.R_mono (rf5 (Kd.R_types HO_z72001.out BKz21.out (by decide)) (fun _ hk => hk.2)) (fun _ hk => hk.1.2.1)⟩, ⟨by (with_reducible repeat (first | refine blk_drewN ?_ _ | refine bkD ?_ | refine bkA ?_ _)); refine br5 ?_ NBz10_z21; (with_reducible repeat (first | refine blk_drewN ?_ _ | refine bkD ?_ | refine bkA ?_ _)); exact BKz10.out⟩, ⟨by (with_reducible repeat (first | refine blk_drewN ?_ _ | refine bkD ?_ | refine bkA ?_ _)); apply bp5; (with_reducible repeat (first | refine blk_drewN ?_ _ | refine bkD ?_ | refine bkA ?_ _)); exact BKz21.out⟩, ⟨by repeat first | (with_reducible first | exact HB.out | apply ba | apply bn | apply bd | refine bs (by assumption) ?_) | exact HB.out⟩⟩
 rw [if_neg c115] at H
 have c115b0 : (tz69.toList == x19_38.toList) = false := beq_eq_false_iff_ne.mpr c115
 have c115b1 : (tz69.toList != x19_38.toList) = true := bne_iff_ne.mpr c115
 by_cases c125 : tz69.toList = x12_1.toList
 rotate_left
 ·rw [if_neg c125] at H
  exact absurd H (by simp)
 rw [if_pos c125] at H
 have c125b0 : (tz69.toList == x12_1.toList) = true := beq_iff_eq.mpr c125
 have c125b1 : (tz69.toList != x12_1.toList) = false := bne_eq_false_iff_eq.mpr c125
 clear c125
 by_cases c126 : tz31 = (tz26.length : Int)
 ·rw [if_pos c126] at H
  exact absurd H (by simp)
 rw [if_neg c126] at H
 have c126b0 : (tz31 == (tz26.length : Int)) = false := beq_eq_false_iff_ne.mpr c126
 have c126b1 : (tz31 != (tz26.length : Int)) = true := bne_iff_ne.mpr c126
 have H' := am H
 clear H
 have hnb127 := NBz71_z10.out
 have hnc127 := NBz10_z71.out
 have hnb128 := NBz71_z21.out
 have hnc128 := NBz21_z71.out
 have hnb129 := NBz71_z43.out
 have hnc129 := NBz43_z71.out
 have hnb130 := NBz71_z59.out
 have hnc130 := NBz59_z71.out
 obtain ⟨hcz131_0, hcz131_1, hcz131_2, hcz131_3, hcz131_4⟩ := bc5 BKz71
 obtain ⟨hfz131_0, hfz131_1, hfz131_2, hfz131_3, hfz131_4⟩ := bf5 BKz71
 have hnb132 := NBz21_z10.out
 have hnc132 := NBz10_z21.out
 have hnb133 := NBz21_z43.out
 have hnc133 := NBz43_z21.out
 have hnb134 := NBz21_z59.out
 have hnc134 := NBz59_z21.out
 obtain ⟨hcz135_0, hcz135_1, hcz135_2, hcz135_3, hcz135_4⟩ := bc5 BKz21
 obtain ⟨hfz135_0, hfz135_1, hfz135_2, hfz135_3, hfz135_4⟩ := bf5 BKz21
 go_wp2
 go_roundg kj81
 case measure => have := HK1.out; have := HJ20.out; have := HJ38.out; have := HK4.out; have := HJ81.out; omega
 case rel => exact ⟨(tz69), (x13_4), (wrap64 (x14_1 + 1)), (tz60), (tz63), (tz66), (tz67), (tz68), (.slice Ao97 tz60.length co97), (.slice Ao103 tz63.length co103), (by first | rfl | (simp; done) | (simp [*]; done)), (by first | rfl | (simp; done) | (simp [*]; done)), (by first | rfl | (simp; done) | (simp [*]; done)), H', ⟨by have := HK1.out; have := HJ20.out; have := HJ38.out; have := HK4.out; have := HJ81.out; omega⟩, ⟨by (with_reducible repeat first | apply ra | apply rn | apply rd); exact Kd.R_mono (rf5 (Kd.R_types HO_z11000.out BKz21.out (by decide)) (fun _ hk => hk.2)) (fun _ hk => hk.1.2.2.2)⟩, ⟨by (with_reducible repeat first | apply ra | apply rn | apply rd); exact Kd.R_mono (rf5 (Kd.R_types HO_z11001.out BKz21.out (by decide)) (fun _ hk => hk.2)) (fun _ hk => hk.1.2.2.2.2)⟩, ⟨by (with_reducible repeat first | apply ra | apply rn | apply rd); exact Kd.R_mono (rf5 (Kd.R_types HO_z72000.out BKz21.out (by decide)) (fun _ hk => hk.2)) (fun _ hk => hk.1.1)⟩, ⟨by (with_reducible repeat first | apply ra | apply rn | apply rd); exact Kd.R_mono (rf5 (Kd.R_types HO_z72001.out BKz21.out (by decide)) (fun _ hk => hk.2)) (fun _ hk => hk.1.2.1)⟩, ⟨by (with_reducible repeat (first | refine blk_drewN ?_ _ | refine bkD ?_ | refine bkA ?_ _)); refine br5 ?_ NBz10_z21; (with_reducible repeat (first | refine blk_drewN ?_ _ | refine bkD ?_ | refine bkA ?_ _)); exact BKz10.out⟩, ⟨by (with_reducible repeat (first | refine blk_drewN ?_ _ | refine bkD ?_ | refine bkA ?_ _)); apply bp5; (with_reducible repeat (first | refine blk_drewN ?_ _ | refine bkD ?_ | refine bkA ?_ _)); exact BKz21.out⟩, ⟨by repeat first | (with_reducible first | exact HB.out | apply ba | apply bn | apply bd | refine bs (by assumption) ?_) | exact HB.out⟩⟩
end Go.Proofs.Ytcfinlmocgbnbaa.Pr
end
