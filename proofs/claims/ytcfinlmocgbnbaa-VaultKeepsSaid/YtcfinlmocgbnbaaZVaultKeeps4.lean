/-
  A part of what the row VaultKeeps reaches, laid together by a program of this session (wip/tools/shake.py) out of this seat's texts. No condition but the ones that each lemma names.
-/
import Derived.OpenShut
import Derived.ProofKit
import Derived.DataElems
import Derived.Test.YtcfinlmocgbnbaaZVaultKeeps1
import Derived.Test.YtcfinlmocgbnbaaZVaultKeeps2
import Derived.Test.YtcfinlmocgbnbaaZVaultKeeps3
set_option linter.unusedVariables false
set_option linter.unusedSimpArgs false
section
namespace Go.Proofs.Ytcfinlmocgbnbaa.Pr
open Go.Proofs.Ytcfinlmocgbnbaa.Sq Go.RowKit Go.Proofs.YtcfinlmocgbnbaaW.PrintWords Go.Proofs.YtcfinlmocgbnbaaW.PrintLast Go.Proofs.YtcfinlmocgbnbaaW.PrintMore
attribute [local go_sem] max2_int min2_int max_two min_two max_three min_three max_four min_four
set_option linter.unusedVariables false
set_option linter.unusedSimpArgs false
mutual
def columbariumlaw15_VaultKeeps.l0 : Nat → List (S60) → Bool → Int → ByteArray → Int → List ByteArray → List (S24) → List ByteArray → List (S24) → Int → Int → Int → Option (Bool)
 | 0, _, _, _, _, _, _, _, _, _, _, _, _ => none
 | k + 1, x1, x5, x10, x11, x12, xz11000, xz11001, xz22000, xz22001, xz22002, xz22003, xz22004 => if x12 < (x1.length : Int) then (columbariumlaw15_VaultKeeps.j1 k x1 x5 x10 x11 x12 (decide (x12 < 8)) xz11000 xz11001 xz22000 xz22001 xz22002 xz22003 xz22004) else (columbariumlaw15_VaultKeeps.j1 k x1 x5 x10 x11 x12 false xz11000 xz11001 xz22000 xz22001 xz22002 xz22003 xz22004)
def columbariumlaw15_VaultKeeps.j1 : Nat → List (S60) → Bool → Int → ByteArray → Int → Bool → List ByteArray → List (S24) → List ByteArray → List (S24) → Int → Int → Int → Option (Bool)
 | 0, _, _, _, _, _, _, _, _, _, _, _, _, _ => none
 | k + 1, x1, x5, x10, x11, x12, x45, xz11000, xz11001, xz22000, xz22001, xz22002, xz22003, xz22004 => if x45 = true then (if 0 ≤ x12 then (if x12 < (x1.length : Int) then ((columbariumlaw15_Text.f k ((rd_T60 x1 x12).f0)).bind fun tz24 => ((columbariumlaw15_pick.f ((rd_T60 x1 x12).f1) 3).bind fun tz26 => (if x11.size + tz24.size ≤ 9223372036854775807 then (if tz26 = 0 then (columbariumlaw15_VaultKeeps.j2 k x1 x5 x10 x11 x12 tz24 (tz26 == 0) tz24 xz11000 xz11001 xz22000 xz22001 xz22002 xz22003 xz22004) else (columbariumlaw15_VaultKeeps.j2 k x1 x5 x10 x11 x12 tz24 (tz26 == 0) (x11 ++ tz24) xz11000 xz11001 xz22000 xz22001 xz22002 xz22003 xz22004)) else (none)))) else (none)) else (none)) else (if x5 = true then (some (x10 == (wrap64 (64 * (wrap64 (Int.tdiv (wrap64 ((xz11000.length : Int) - 2)) 2)))))) else (none))
def columbariumlaw15_VaultKeeps.j2 : Nat → List (S60) → Bool → Int → ByteArray → Int → ByteArray → Bool → ByteArray → List ByteArray → List (S24) → List ByteArray → List (S24) → Int → Int → Int → Option (Bool)
 | 0, _, _, _, _, _, _, _, _, _, _, _, _, _, _, _ => none
 | k + 1, x1, x5, x10, x11, x12, x13, x14, x15, xz11000, xz11001, xz22000, xz22001, xz22002, xz22003, xz22004 => (vault_Keep.f xz22000 xz22001 xz22002 xz22003 xz22004 x13 x14).bind fun btz27 => (if (x15.size : Int) > x10 then (if btz27.2.2.2.2.2 = 2 then ((columbariumref15_Same.f k btz27.1 btz27.2.1 btz27.2.2.1 btz27.2.2.2.1 btz27.2.2.2.2.1 xz22000 xz22001 xz22002 xz22003 xz22004).bind fun tz38 => (if tz38 = true then (columbariumlaw15_VaultKeeps.l0 k x1 x5 x10 x11 (wrap64 (x12 + 1)) xz11000 xz11001 xz22000 xz22001 xz22002 xz22003 xz22004) else (none))) else (none)) else ((vault_Open.f btz27.1 btz27.2.1).bind fun btz39 => (if btz27.2.2.2.2.2 = 0 then (if btz39.2.2.2.2.2.2 = 0 then (if btz39.2.2.2.2.2.1.toList = x15.toList then ((columbariumref15_Same.f k btz39.1 btz39.2.1 btz39.2.2.1 btz39.2.2.2.1 btz39.2.2.2.2.1 btz27.1 btz27.2.1 btz27.2.2.1 btz27.2.2.2.1 btz27.2.2.2.2.1).bind fun tz51 => (if tz51 = true then ((vault_Right.f btz27.1 btz27.2.1 btz27.2.2.1 btz27.2.2.2.1 btz27.2.2.2.2.1).bind fun tz52 => (if tz52 = true then (if btz27.2.2.1 = (wrap64 (xz22002 + 1)) then (if btz27.2.2.2.2.1 = (x15.size : Int) then (columbariumlaw15_VaultKeeps.l0 k x1 x5 x10 x15 (wrap64 (x12 + 1)) xz11000 xz11001 btz27.1 btz27.2.1 btz27.2.2.1 btz27.2.2.2.1 btz27.2.2.2.2.1) else (none)) else (none)) else (none))) else (none))) else (none)) else (none)) else (none))))
end
def columbariumlaw15_VaultKeeps.f (k : Nat) (a0 : Int) (l1 : List (S60)) : Option (Bool) := (columbariumlaw15_awake.f).bind fun tz1 => ((columbariumlaw15_pick.f a0 9).bind fun tz2 => ((columbariumref14_New.f k (wrap64 (4 + tz2))).bind fun btz3 => ((vault_Format.f k btz3.1 btz3.2.1).bind fun btz11 => (if btz11.2.2.2.2.2 = 0 then ((vault_Room.f btz11.1 btz11.2.1 btz11.2.2.1 btz11.2.2.2.1 btz11.2.2.2.2.1).bind fun tz22 => (columbariumlaw15_VaultKeeps.l0 k l1 tz1 tz22 (⟨#[]⟩ : ByteArray) 0 btz3.1 btz3.2.1 btz11.1 btz11.2.1 btz11.2.2.1 btz11.2.2.2.1 btz11.2.2.2.2.1)) else (none)))))
set_option maxHeartbeats 8000000 in
set_option maxRecDepth 100000 in
theorem columbariumlaw15_VaultKeeps.calls (k : Nat) (a0 : Int) (A1 : Option Addr) (c1 : Nat) (l1 : List (S60)) (r : Bool) (w : World) (hr1 : Kd.C k60 w A1 l1.length l1) (hc1 : l1.length ≤ c1) (h : columbariumlaw15_VaultKeeps.f k a0 l1 = some r) :
  Calls Try.prog 8 #[.int .i64 a0, .slice A1 l1.length c1] w fun e w' => e = .returned (.bool r) ∧ Below w.heap.size w w' := by
 have hu30 := Try.underlying30
 have hu56 := Try.underlying56
 have hu60 := Try.underlying60
 have HR1 := am hr1
 have HC1 := am hc1
 clear hr1 hc1
 have HB := am (Below.refl w.heap.size w)
 have H : ((columbariumlaw15_awake.f).bind fun tz1 => ((columbariumlaw15_pick.f a0 9).bind fun tz2 => ((columbariumref14_New.f k (wrap64 (4 + tz2))).bind fun btz3 => ((vault_Format.f k btz3.1 btz3.2.1).bind fun btz11 => (if btz11.2.2.2.2.2 = 0 then ((vault_Room.f btz11.1 btz11.2.1 btz11.2.2.1 btz11.2.2.2.1 btz11.2.2.2.2.1).bind fun tz22 => (columbariumlaw15_VaultKeeps.l0 k l1 tz1 tz22 (⟨#[]⟩ : ByteArray) 0 btz3.1 btz3.2.1 btz11.1 btz11.2.1 btz11.2.2.1 btz11.2.2.2.1 btz11.2.2.2.2.1)) else (none)))))) = some r := h
 clear h
 replace H := ob_ H
 obtain ⟨tz1, A30, H⟩ := H
 replace H : ((columbariumlaw15_pick.f a0 9).bind fun tz2 => ((columbariumref14_New.f k (wrap64 (4 + tz2))).bind fun btz3 => ((vault_Format.f k btz3.1 btz3.2.1).bind fun btz11 => (if btz11.2.2.2.2.2 = 0 then ((vault_Room.f btz11.1 btz11.2.1 btz11.2.2.1 btz11.2.2.2.1 btz11.2.2.2.2.1).bind fun tz22 => (columbariumlaw15_VaultKeeps.l0 k l1 tz1 tz22 (⟨#[]⟩ : ByteArray) 0 btz3.1 btz3.2.1 btz11.1 btz11.2.1 btz11.2.2.1 btz11.2.2.2.1 btz11.2.2.2.2.1)) else (none))))) = some r := H
 have A3 := Aside0.mk A30
 clear A30
 replace H := ob_ H
 obtain ⟨tz2, A40, H⟩ := H
 replace H : ((columbariumref14_New.f k (wrap64 (4 + tz2))).bind fun btz3 => ((vault_Format.f k btz3.1 btz3.2.1).bind fun btz11 => (if btz11.2.2.2.2.2 = 0 then ((vault_Room.f btz11.1 btz11.2.1 btz11.2.2.1 btz11.2.2.2.1 btz11.2.2.2.2.1).bind fun tz22 => (columbariumlaw15_VaultKeeps.l0 k l1 tz1 tz22 (⟨#[]⟩ : ByteArray) 0 btz3.1 btz3.2.1 btz11.1 btz11.2.1 btz11.2.2.1 btz11.2.2.2.1 btz11.2.2.2.2.1)) else (none)))) = some r := H
 have A4 := Aside0.mk A40
 clear A40
 replace H := ob_ H
 obtain ⟨⟨tz3, tz6, tz9⟩, A50, H⟩ := H
 replace H : ((vault_Format.f k tz3 tz6).bind fun btz11 => (if btz11.2.2.2.2.2 = 0 then ((vault_Room.f btz11.1 btz11.2.1 btz11.2.2.1 btz11.2.2.2.1 btz11.2.2.2.2.1).bind fun tz22 => (columbariumlaw15_VaultKeeps.l0 k l1 tz1 tz22 (⟨#[]⟩ : ByteArray) 0 tz3 tz6 btz11.1 btz11.2.1 btz11.2.2.1 btz11.2.2.2.1 btz11.2.2.2.2.1)) else (none))) = some r := H
 have A5 := Aside0.mk A50
 clear A50
 replace H := ob_ H
 obtain ⟨⟨tz11, tz14, tz17, tz18, tz19, tz20⟩, A60, H⟩ := H
 replace H : (if tz20 = 0 then ((vault_Room.f tz11 tz14 tz17 tz18 tz19).bind fun tz22 => (columbariumlaw15_VaultKeeps.l0 k l1 tz1 tz22 (⟨#[]⟩ : ByteArray) 0 tz3 tz6 tz11 tz14 tz17 tz18 tz19)) else (none)) = some r := H
 have A6 := Aside0.mk A60
 clear A60
 by_cases c7 : tz20 = 0
 rotate_left
 ·rw [if_neg c7] at H
  exact absurd H (by simp)
 rw [if_pos c7] at H
 have c7b0 : (tz20 == 0) = true := beq_iff_eq.mpr c7
 have c7b1 : (tz20 != 0) = false := bne_eq_false_iff_eq.mpr c7
 clear c7
 replace H := ob_ H
 obtain ⟨tz22, A80, H⟩ := H
 replace H : (columbariumlaw15_VaultKeeps.l0 k l1 tz1 tz22 (⟨#[]⟩ : ByteArray) 0 tz3 tz6 tz11 tz14 tz17 tz18 tz19) = some r := H
 have A8 := Aside0.mk A80
 clear A80
 have H' := am H
 clear H
 go_enter Try.func8, Try.ntmps8
 go_wp2_with (first | ((with_reducible refine gate_callee (f := 28) rfl ?_); refine goesL_ (some 21) rfl rfl Try.func28 (by kernel_rfl) rfl #[] rfl (by (try simp only [List.map_toArray, List.map_cons, List.map_nil]) <;> rfl) ?_; (with_reducible refine (columbariumlaw15_awake.calls  tz1 _ A3.out).mono ?_); rintro e w9 ⟨rfl, hb⟩; refine ⟨_, rfl, ?_⟩; have n0_ := am (below_step (pb HB) hb); clear HB; have HB := n0_; clear n0_; (try clear hi)) | ((with_reducible refine gate_callee (f := 29) rfl ?_); refine goesL_ (some 24) rfl rfl Try.func29 (by kernel_rfl) rfl #[.int .i64 a0, .int .i64 9] rfl (by (try simp only [List.map_toArray, List.map_cons, List.map_nil]) <;> rfl) ?_; (with_reducible refine (columbariumlaw15_pick.calls a0 9 tz2 _ A4.out).mono ?_); rintro e w' ⟨rfl, ⟨nd, rfl⟩⟩; refine ⟨_, rfl, ?_⟩; (try (rw [drewN_self w9]; generalize hq_ : World.drewN w9 _ = w9; have n0_ : Aside0 (Below w.heap.size w w9) := ⟨by rw [← hq_]; exact (pb HB)⟩; clear HB hq_; have HB := n0_; clear n0_))) | ((with_reducible refine gate_callee (f := 14) rfl ?_); refine goesL_ (some 26) rfl rfl Try.func14 (by kernel_rfl) rfl #[.int .i64 (wrap64 (4 + tz2))] rfl (by (try simp only [List.map_toArray, List.map_cons, List.map_nil]) <;> rfl) ?_; (with_reducible refine (columbariumref14_New.calls k (wrap64 (4 + tz2)) tz3 tz6 tz9 _ A5.out).mono ?_); rintro e w10 ⟨vz4, vz7, rfl, ho0, ho1, hb⟩; refine ⟨_, rfl, ?_⟩; have n0_ := am (Kd.R_lower ho0 (below_size (pb HB))); have n1_ := am (Kd.R_lower ho1 (below_size (pb HB))); have n2_ := am (below_step (pb HB) hb); clear HB; have HOz5 := n0_; have HOz8 := n1_; have HB := n2_; clear n0_ n1_ n2_; (try clear ho1)) | ((with_reducible refine gate_dst (N := 6) rfl ?_); (try (refine gate_guard (by rfl) ?_; dsimp only)); refine box_event ?hg (N := 6) ?hd (cs := #[.slice none 0 0, .slice none 0 0]) (t := 30) ?hr ?_; (case hd => rfl); (case hg => rfl); (case hr => first | (go_simp; done) | (go_simp; rfl)); intro gbz10 hg w11 hbox hb; have n0_ := am (Kd.R_below (pr HOz5) hb); have n1_ := am (Kd.R_below (pr HOz8) hb); have n2_ := am (below_step (pb HB) hb); have n3_ := am (hbox); have n4_ := ge_ hg (pb HB); have n5_ := ge_ hg (pb HB); clear HOz5; clear HOz8; clear HB; have HOz5 := n0_; have HOz8 := n1_; have HB := n2_; have BKz10 := n3_; have GWz10 := n4_; have GEz10 := n5_; clear n0_ n1_ n2_ n3_ n4_ n5_; clear hb hbox hg; obtain ⟨Ao12, co12, eo12⟩ := Kd.R_slice HOz5.out; subst eo12; obtain ⟨hcz13_0, hcz13_1⟩ := bc2 BKz10; obtain ⟨hfz13_0, hfz13_1⟩ := bf2 BKz10; obtain ⟨Ao14, co14, eo14⟩ := Kd.R_slice HOz8.out; subst eo14) | ((with_reducible refine gate_callee (f := 30) rfl ?_); refine goesL_ (some 31) rfl rfl Try.func30 (by kernel_rfl) rfl #[.agg #[.slice Ao12 tz3.length co12, .slice Ao14 tz6.length co14]] rfl (by (try simp only [List.map_toArray, List.map_cons, List.map_nil]) <;> rfl) ?_; (with_reducible refine (vault_Format.calls k _ _ tz3 _ _ tz6 tz11 tz14 tz17 tz18 tz19 tz20 _ ?side1 ?side2 ?side3 ?side4 A6.out).mono ?_); (case side1 => refine (Kd.R_reads' (e := 9) (base := w.heap.size) (ok := fun k_ => True) (n := tz3.length) (c := co12) ?_).2.2; exact (by (with_reducible repeat first | apply ra | apply rn | apply rd); exact (rs2 HOz5 BKz10 (by decide)))); (case side2 => exact (Kd.R_reads' HOz5.out).2.1); (case side3 => refine (Kd.R_reads' (e := 24) (base := w.heap.size) (ok := fun k_ => True) (n := tz6.length) (c := co14) ?_).2.2; exact (by (with_reducible repeat first | apply ra | apply rn | apply rd); exact (rs2 HOz8 BKz10 (by decide)))); (case side4 => exact (Kd.R_reads' HOz8.out).2.1); rintro e w15 ⟨vz12, vz15, rfl, ho0, ho1, hb⟩; refine ⟨_, rfl, ?_⟩; have n0_ := am (Kd.R_elder' (by (with_reducible repeat first | apply ra | apply rn | apply rd); exact (rs2 HOz5 BKz10 (by decide))) (Kd.R_base ho0) hb); have n1_ := am (Kd.R_elder' (by (with_reducible repeat first | apply ra | apply rn | apply rd); exact (rs2 HOz8 BKz10 (by decide))) (Kd.R_base ho1) hb); have n2_ := am (Kd.R_lower (Kd.R_new' ho0 (Kd.R_lt (by (with_reducible repeat first | apply ra | apply rn | apply rd); exact (rs2 HOz5 BKz10 (by decide))))) (below_size (by repeat first | (with_reducible first | exact HB.out | apply ba | apply bn | apply bd | refine bs (by assumption) ?_) | exact HB.out))); have n3_ := am (Kd.R_lower (Kd.R_new' ho1 (Kd.R_lt (by (with_reducible repeat first | apply ra | apply rn | apply rd); exact (rs2 HOz8 BKz10 (by decide))))) (below_size (by repeat first | (with_reducible first | exact HB.out | apply ba | apply bn | apply bd | refine bs (by assumption) ?_) | exact HB.out))); have n4_ := am (bkB (g := gbz10) (o := .cells #[.slice Ao12 tz3.length co12, .slice Ao14 tz6.length co14] 30 (0, 0)) (by (with_reducible repeat (first | refine blk_drewN ?_ _ | refine bkD ?_ | refine bkA ?_ _)); apply bp2; exact pk BKz10) hb); have n5_ := am (below_step (by repeat first | (with_reducible first | exact HB.out | apply ba | apply bn | apply bd | refine bs (by assumption) ?_) | exact HB.out) hb); clear HOz5; clear HOz8; clear BKz10; clear HB; have HOz5 := n0_; have HOz8 := n1_; have HOz13 := n2_; have HOz16 := n3_; have BKz10 := n4_; have HB := n5_; clear n0_ n1_ n2_ n3_ n4_ n5_; (try clear ho1)) | ((with_reducible refine gate_dst (N := 8) rfl ?_); (try (refine gate_guard (by rfl) ?_; dsimp only)); refine box_event ?hg (N := 8) ?hd (cs := #[.slice none 0 0, .slice none 0 0, .int .i64 0, .int .i64 0, .int .i64 0]) (t := 56) ?hr ?_; (case hd => rfl); (case hg => rfl); (case hr => first | (go_simp; done) | (go_simp; rfl)); intro gbz21 hg w16 hbox hb; have n0_ := am (Kd.R_below (pr HOz5) hb); have n1_ := am (Kd.R_below (pr HOz8) hb); have n2_ := am (Kd.R_below (pr HOz13) hb); have n3_ := am (Kd.R_below (pr HOz16) hb); have n4_ := am (bkB (pk BKz10) hb); have n5_ := am (below_step (by repeat first | (with_reducible first | exact HB.out | apply ba | apply bn | apply bd | refine bs (by assumption) ?_) | exact HB.out) hb); have n6_ := am (hbox); have n7_ := ge_ hg (by repeat first | (with_reducible first | exact HB.out | apply ba | apply bn | apply bd | refine bs (by assumption) ?_) | exact HB.out); have n8_ := ge_ hg (by repeat first | (with_reducible first | exact HB.out | apply ba | apply bn | apply bd | refine bs (by assumption) ?_) | exact HB.out); have n9_ := nl_ hg BKz10; have n10_ := ng_ hg BKz10; clear HOz5; clear HOz8; clear HOz13; clear HOz16; clear BKz10; clear HB; have HOz5 := n0_; have HOz8 := n1_; have HOz13 := n2_; have HOz16 := n3_; have BKz10 := n4_; have HB := n5_; have BKz21 := n6_; have GWz21 := n7_; have GEz21 := n8_; have NBz10_z21 := n9_; have NBz21_z10 := n10_; clear n0_ n1_ n2_ n3_ n4_ n5_ n6_ n7_ n8_ n9_ n10_; clear hb hbox hg; obtain ⟨Ao17, co17, eo17⟩ := Kd.R_slice HOz13.out; subst eo17; have hnb18 := NBz21_z10.out; have hnc18 := NBz10_z21.out; obtain ⟨hcz19_0, hcz19_1, hcz19_2, hcz19_3, hcz19_4⟩ := bc5 BKz21; obtain ⟨hfz19_0, hfz19_1, hfz19_2, hfz19_3, hfz19_4⟩ := bf5 BKz21; obtain ⟨Ao20, co20, eo20⟩ := Kd.R_slice HOz16.out; subst eo20) | ((with_reducible refine gate_callee (f := 31) rfl ?_); refine goesL_ (some 37) rfl rfl Try.func31 (by kernel_rfl) rfl #[.agg #[.slice Ao17 tz11.length co17, .slice Ao20 tz14.length co20, .int .i64 tz17, .int .i64 tz18, .int .i64 tz19]] rfl (by (try simp only [List.map_toArray, List.map_cons, List.map_nil]) <;> rfl) ?_; (with_reducible refine (vault_Room.calls _ _ tz11 _ _ tz14 tz17 tz18 tz19 tz22 _ ?side1 ?side2 ?side3 ?side4 A8.out).mono ?_); (case side1 => refine (Kd.R_reads' (e := 9) (base := w.heap.size) (ok := fun k_ => (True ∧ some k_ ≠ (.slice Ao12 tz3.length co12 : Value).ownBlock)) (n := tz11.length) (c := co17) ?_).2.2; exact (by (with_reducible repeat first | apply ra | apply rn | apply rd); exact (rs5 HOz13 BKz21 (by decide)))); (case side2 => exact (Kd.R_reads' HOz13.out).2.1); (case side3 => refine (Kd.R_reads' (e := 24) (base := w.heap.size) (ok := fun k_ => (True ∧ some k_ ≠ (.slice Ao14 tz6.length co14 : Value).ownBlock)) (n := tz14.length) (c := co20) ?_).2.2; exact (by (with_reducible repeat first | apply ra | apply rn | apply rd); exact (rs5 HOz16 BKz21 (by decide)))); (case side4 => exact (Kd.R_reads' HOz16.out).2.1); rintro e w21 ⟨rfl, hb⟩; refine ⟨_, rfl, ?_⟩; have n0_ := am (Kd.R_below (by (with_reducible repeat first | apply ra | apply rn | apply rd); exact (rs5 HOz5 BKz21 (by decide))) hb); have n1_ := am (Kd.R_below (by (with_reducible repeat first | apply ra | apply rn | apply rd); exact (rs5 HOz8 BKz21 (by decide))) hb); have n2_ := am (Kd.R_below (by (with_reducible repeat first | apply ra | apply rn | apply rd); exact (rs5 HOz13 BKz21 (by decide))) hb); have n3_ := am (Kd.R_below (by (with_reducible repeat first | apply ra | apply rn | apply rd); exact (rs5 HOz16 BKz21 (by decide))) hb); have n4_ := am (bkB (g := gbz10) (o := .cells #[.slice Ao12 tz3.length co12, .slice Ao14 tz6.length co14] 30 (0, 0)) (by (with_reducible repeat (first | refine blk_drewN ?_ _ | refine bkD ?_ | refine bkA ?_ _)); refine br5 ?_ NBz10_z21; exact pk BKz10) hb); have n5_ := am (bkB (g := gbz21) (o := .cells #[.slice Ao17 tz11.length co17, .slice Ao20 tz14.length co20, .int .i64 tz17, .int .i64 tz18, .int .i64 tz19] 56 (0, 0)) (by (with_reducible repeat (first | refine blk_drewN ?_ _ | refine bkD ?_ | refine bkA ?_ _)); apply bp5; exact pk BKz21) hb); have n6_ := am (below_step (by repeat first | (with_reducible first | exact HB.out | apply ba | apply bn | apply bd | refine bs (by assumption) ?_) | exact HB.out) hb); clear HOz5; clear HOz8; clear HOz13; clear HOz16; clear BKz10; clear BKz21; clear HB; have HOz5 := n0_; have HOz8 := n1_; have HOz13 := n2_; have HOz16 := n3_; have BKz10 := n4_; have BKz21 := n5_; have HB := n6_; clear n0_ n1_ n2_ n3_ n4_ n5_ n6_; (try clear hi)))
 go_loopg [11, 12] k (fun kq v11 v12 w' => ∃ (x11_1 : ByteArray) (x12_1 : Int) (xz22000_1 : List ByteArray) (xz22001_1 : List (S24)) (xz22002_1 : Int) (xz22003_1 : Int) (xz22004_1 : Int) (uz22000 : Value) (uz22001 : Value), v11 = .string x11_1 ∧ v12 = .int .i64 x12_1 ∧ Aside0 (columbariumlaw15_VaultKeeps.l0 kq l1 tz1 tz22 x11_1 x12_1 tz3 tz6 xz22000_1 xz22001_1 xz22002_1 xz22003_1 xz22004_1 = some r) ∧ Aside0 (kq ≤ k) ∧ Aside0 (Kd.R Kd.string 9 w' w.heap.size (fun k_ => some k_ ≠ (uz22000 : Value).ownBlock) (.slice Ao12 tz3.length co12) tz3) ∧ Aside0 (Kd.R k24 24 w' w.heap.size (fun k_ => some k_ ≠ (uz22001 : Value).ownBlock) (.slice Ao14 tz6.length co14) tz6) ∧ Aside0 (Kd.R Kd.string 9 w' w.heap.size (fun k_ => some k_ ≠ ((.slice Ao12 tz3.length co12) : Value).ownBlock) uz22000 xz22000_1) ∧ Aside0 (Kd.R k24 24 w' w.heap.size (fun k_ => some k_ ≠ ((.slice Ao14 tz6.length co14) : Value).ownBlock) uz22001 xz22001_1) ∧ Aside0 (w'.heap[gbz10]? = some (.cells #[(.slice Ao12 tz3.length co12), (.slice Ao14 tz6.length co14)] 30 (0, 0))) ∧ Aside0 (w'.heap[gbz21]? = some (.cells #[uz22000, uz22001, .int .i64 xz22002_1, .int .i64 xz22003_1, .int .i64 xz22004_1] 56 (0, 0))) ∧ Aside0 (Below w.heap.size w w'))
 case atStart => exact ⟨((⟨#[]⟩ : ByteArray)), (0), (tz11), (tz14), (tz17), (tz18), (tz19), (.slice Ao17 tz11.length co17), (.slice Ao20 tz14.length co20), (by first | rfl | (simp; done) | (simp [*]; done)), (by first | rfl | (simp; done) | (simp [*]; done)), H', ⟨Nat.le_refl _⟩, ⟨by (with_reducible repeat first | apply ra | apply rn | apply rd); exact Kd.R_mono HOz5.out (fun _ hk => hk.2)⟩, ⟨by (with_reducible repeat first | apply ra | apply rn | apply rd); exact Kd.R_mono HOz8.out (fun _ hk => hk.2)⟩, ⟨by (with_reducible repeat first | apply ra | apply rn | apply rd); exact Kd.R_mono HOz13.out (fun _ hk => hk.2)⟩, ⟨by (with_reducible repeat first | apply ra | apply rn | apply rd); exact Kd.R_mono HOz16.out (fun _ hk => hk.2)⟩, ⟨by (with_reducible repeat (first | refine blk_drewN ?_ _ | refine bkD ?_ | refine bkA ?_ _)); exact BKz10.out⟩, ⟨by (with_reducible repeat (first | refine blk_drewN ?_ _ | refine bkD ?_ | refine bkA ?_ _)); exact BKz21.out⟩, ⟨by repeat first | (with_reducible first | exact HB.out | apply ba | apply bn | apply bd | refine bs (by assumption) ?_) | exact HB.out⟩⟩
 clear H'
 try clear c1
 try clear c2
 try clear p2
 try clear c3
 try clear p6
 try clear c7
 try clear c7b0
 try clear c7b1
 try clear c8
 try clear c14
 try clear c18
 try clear hcz13_0
 try clear hcz13_1
 try clear hcz19_0
 try clear hcz19_1
 try clear hcz19_2
 try clear hcz19_3
 try clear hcz19_4
 try clear hfz13_0
 try clear hfz13_1
 try clear hfz19_0
 try clear hfz19_1
 try clear hfz19_2
 try clear hfz19_3
 try clear hfz19_4
 obtain ⟨x11_1, x12_1, xz22000_1, xz22001_1, xz22002_1, xz22003_1, xz22004_1, uz22000, uz22001, rfl, rfl, HA, HK1, HO_z11000, HO_z11001, HO_z22000, HO_z22001, BKz10, BKz21, HB⟩ := hrel
 cases gk with
 | zero => exact absurd HA.out (by simp [columbariumlaw15_VaultKeeps.l0])
 | succ k1 => ?_
 have H := HA.out
 clear HA
 simp only [columbariumlaw15_VaultKeeps.l0] at H
 have HC22 := am H
 clear H
 go_upto_region 9 with (fail)
 go_cut [45] (fun v45 wc => ∃ (kq : Nat) (x45_21 : Bool), v45 = .bool x45_21 ∧ Aside0 (columbariumlaw15_VaultKeeps.j1 kq l1 tz1 tz22 x11_1 x12_1 x45_21 tz3 tz6 xz22000_1 xz22001_1 xz22002_1 xz22003_1 xz22004_1 = some r) ∧ Aside0 (kq ≤ k1) ∧ Aside0 (Kd.R Kd.string 9 wc w.heap.size (fun k_ => some k_ ≠ (uz22000 : Value).ownBlock) (.slice Ao12 tz3.length co12) tz3) ∧ Aside0 (Kd.R k24 24 wc w.heap.size (fun k_ => some k_ ≠ (uz22001 : Value).ownBlock) (.slice Ao14 tz6.length co14) tz6) ∧ Aside0 (Kd.R Kd.string 9 wc w.heap.size (fun k_ => some k_ ≠ ((.slice Ao12 tz3.length co12) : Value).ownBlock) uz22000 xz22000_1) ∧ Aside0 (Kd.R k24 24 wc w.heap.size (fun k_ => some k_ ≠ ((.slice Ao14 tz6.length co14) : Value).ownBlock) uz22001 xz22001_1) ∧ Aside0 (wc.heap[gbz10]? = some (.cells #[(.slice Ao12 tz3.length co12), (.slice Ao14 tz6.length co14)] 30 (0, 0))) ∧ Aside0 (wc.heap[gbz21]? = some (.cells #[uz22000, uz22001, .int .i64 xz22002_1, .int .i64 xz22003_1, .int .i64 xz22004_1] 56 (0, 0))) ∧ Aside0 (Below w.heap.size w wc))
 case first =>
  have H := HC22.out
  clear HC22
  by_cases c23 : x12_1 < (l1.length : Int)
  rotate_left
  ·rw [if_neg c23] at H
   have c23b0 : decide (x12_1 < (l1.length : Int)) = false := decide_eq_false c23
   clear c23
   (first | rw [c23b0] | rw [c23b1] | (simp only [i64_w, i32_w]; rw [c23b0]) | skip)
   have H' := am H
   clear H
   go_wp2
   go_meet
   case rel => exact ⟨_, (false), (by first | rfl | (simp; done) | (simp [*]; done)), H', ⟨by have := HK1.out; first | omega | exact Nat.le_refl _⟩, ⟨by (with_reducible repeat first | apply ra | apply rn | apply rd); exact HO_z11000.out⟩, ⟨by (with_reducible repeat first | apply ra | apply rn | apply rd); exact HO_z11001.out⟩, ⟨by (with_reducible repeat first | apply ra | apply rn | apply rd); exact HO_z22000.out⟩, ⟨by (with_reducible repeat first | apply ra | apply rn | apply rd); exact HO_z22001.out⟩, ⟨by (with_reducible repeat (first | refine blk_drewN ?_ _ | refine bkD ?_ | refine bkA ?_ _)); exact BKz10.out⟩, ⟨by (with_reducible repeat (first | refine blk_drewN ?_ _ | refine bkD ?_ | refine bkA ?_ _)); exact BKz21.out⟩, ⟨by repeat first | (with_reducible first | exact HB.out | apply ba | apply bn | apply bd | refine bs (by assumption) ?_) | exact HB.out⟩⟩
  rw [if_pos c23] at H
  have c23b0 : decide (x12_1 < (l1.length : Int)) = true := decide_eq_true c23
  clear c23
  (first | rw [c23b0] | rw [c23b1] | (simp only [i64_w, i32_w]; rw [c23b0]) | skip)
  have H' := am H
  clear H
  go_wp2
  go_meet
  case rel => exact ⟨_, (decide (x12_1 < 8)), (by first | rfl | (simp; done) | (simp [*]; done)), H', ⟨by have := HK1.out; first | omega | exact Nat.le_refl _⟩, ⟨by (with_reducible repeat first | apply ra | apply rn | apply rd); exact HO_z11000.out⟩, ⟨by (with_reducible repeat first | apply ra | apply rn | apply rd); exact HO_z11001.out⟩, ⟨by (with_reducible repeat first | apply ra | apply rn | apply rd); exact HO_z22000.out⟩, ⟨by (with_reducible repeat first | apply ra | apply rn | apply rd); exact HO_z22001.out⟩, ⟨by (with_reducible repeat (first | refine blk_drewN ?_ _ | refine bkD ?_ | refine bkA ?_ _)); exact BKz10.out⟩, ⟨by (with_reducible repeat (first | refine blk_drewN ?_ _ | refine bkD ?_ | refine bkA ?_ _)); exact BKz21.out⟩, ⟨by repeat first | (with_reducible first | exact HB.out | apply ba | apply bn | apply bd | refine bs (by assumption) ?_) | exact HB.out⟩⟩
 clear HC22
 try clear c1
 try clear c2
 try clear p2
 try clear c3
 try clear p6
 try clear c7
 try clear c7b0
 try clear c7b1
 try clear c8
 try clear c14
 try clear c18
 try clear c23
 try clear c23b0
 try clear c23b1
 try clear hcz13_0
 try clear hcz13_1
 try clear hcz19_0
 try clear hcz19_1
 try clear hcz19_2
 try clear hcz19_3
 try clear hcz19_4
 try clear hfz13_0
 try clear hfz13_1
 try clear hfz19_0
 try clear hfz19_1
 try clear hfz19_2
 try clear hfz19_3
 try clear hfz19_4
 try clear p2
 try clear p6
 obtain ⟨kq, x45_21, rfl, HA, HJ21, HO_z11000, HO_z11001, HO_z22000, HO_z22001, BKz10, BKz21, HB⟩ := hcut
 cases kq with
 | zero => exact absurd HA.out (by simp [columbariumlaw15_VaultKeeps.j1])
 | succ kj21 => ?_
 have H := HA.out
 clear HA
 simp only [columbariumlaw15_VaultKeeps.j1] at H
 by_cases c24 : x45_21 = true
 rotate_left
 ·replace c24 := Bool.eq_false_iff.mpr c24
  subst c24
  have H1 : (if tz1 = true then (some (tz22 == (wrap64 (64 * (wrap64 (Int.tdiv (wrap64 ((tz3.length : Int) - 2)) 2)))))) else (none)) = some r := by rw [if_neg (show ¬ (false = true) by decide)] at H; exact H
  clear H
  have H := H1
  clear H1
  by_cases c87 : tz1 = true
  rotate_left
  ·replace c87 := Bool.eq_false_iff.mpr c87
   subst c87
   have H1 : (none) = some r := by rw [if_neg (show ¬ (false = true) by decide)] at H; exact H
   clear H
   have H := H1
   clear H1
   exact absurd H (by simp)
  subst c87
  have H1 : (some (tz22 == (wrap64 (64 * (wrap64 (Int.tdiv (wrap64 ((tz3.length : Int) - 2)) 2)))))) = some r := by rw [if_pos rfl] at H; exact H
  clear H
  have H := H1
  clear H1
  obtain rfl := Option.some.inj H
  have hnb88 := NBz10_z21.out
  have hnc88 := NBz21_z10.out
  obtain ⟨hcz89_0, hcz89_1⟩ := bc2 BKz10
  obtain ⟨hfz89_0, hfz89_1⟩ := bf2 BKz10
  go_wp2
  go_ret
  exact ⟨by first | rfl | (simp <;> rfl) | (simp [*] <;> rfl), by repeat first | (with_reducible first | exact HB.out | apply ba | apply bn | apply bd | refine bs (by assumption) ?_) | exact HB.out⟩
 subst c24
 have H1 : (if 0 ≤ x12_1 then (if x12_1 < (l1.length : Int) then ((columbariumlaw15_Text.f kj21 ((rd_T60 l1 x12_1).f0)).bind fun tz24 => ((columbariumlaw15_pick.f ((rd_T60 l1 x12_1).f1) 3).bind fun tz26 => (if x11_1.size + tz24.size ≤ 9223372036854775807 then (if tz26 = 0 then (columbariumlaw15_VaultKeeps.j2 kj21 l1 tz1 tz22 x11_1 x12_1 tz24 (tz26 == 0) tz24 tz3 tz6 xz22000_1 xz22001_1 xz22002_1 xz22003_1 xz22004_1) else (columbariumlaw15_VaultKeeps.j2 kj21 l1 tz1 tz22 x11_1 x12_1 tz24 (tz26 == 0) (x11_1 ++ tz24) tz3 tz6 xz22000_1 xz22001_1 xz22002_1 xz22003_1 xz22004_1)) else (none)))) else (none)) else (none)) = some r := by rw [if_pos rfl] at H; exact H
 clear H
 have H := H1
 clear H1
 by_cases c25 : 0 ≤ x12_1
 rotate_left
 ·rw [if_neg c25] at H
  exact absurd H (by simp)
 rw [if_pos c25] at H
 have c25b0 : decide (0 ≤ x12_1) = true := decide_eq_true c25
 clear c25
 by_cases c26 : x12_1 < (l1.length : Int)
 rotate_left
 ·rw [if_neg c26] at H
  exact absurd H (by simp)
 rw [if_pos c26] at H
 have c26b0 : decide (x12_1 < (l1.length : Int)) = true := decide_eq_true c26
 clear c26
 replace H := ob_ H
 obtain ⟨tz24, A270, H⟩ := H
 replace H : ((columbariumlaw15_pick.f ((rd_T60 l1 x12_1).f1) 3).bind fun tz26 => (if x11_1.size + tz24.size ≤ 9223372036854775807 then (if tz26 = 0 then (columbariumlaw15_VaultKeeps.j2 kj21 l1 tz1 tz22 x11_1 x12_1 tz24 (tz26 == 0) tz24 tz3 tz6 xz22000_1 xz22001_1 xz22002_1 xz22003_1 xz22004_1) else (columbariumlaw15_VaultKeeps.j2 kj21 l1 tz1 tz22 x11_1 x12_1 tz24 (tz26 == 0) (x11_1 ++ tz24) tz3 tz6 xz22000_1 xz22001_1 xz22002_1 xz22003_1 xz22004_1)) else (none))) = some r := H
 have A27 := Aside0.mk A270
 clear A270
 replace H := ob_ H
 obtain ⟨tz26, A280, H⟩ := H
 replace H : (if x11_1.size + tz24.size ≤ 9223372036854775807 then (if tz26 = 0 then (columbariumlaw15_VaultKeeps.j2 kj21 l1 tz1 tz22 x11_1 x12_1 tz24 (tz26 == 0) tz24 tz3 tz6 xz22000_1 xz22001_1 xz22002_1 xz22003_1 xz22004_1) else (columbariumlaw15_VaultKeeps.j2 kj21 l1 tz1 tz22 x11_1 x12_1 tz24 (tz26 == 0) (x11_1 ++ tz24) tz3 tz6 xz22000_1 xz22001_1 xz22002_1 xz22003_1 xz22004_1)) else (none)) = some r := H
 have A28 := Aside0.mk A280
 clear A280
 by_cases c29 : x11_1.size + tz24.size ≤ 9223372036854775807
 rotate_left
 ·rw [if_neg c29] at H
  exact absurd H (by simp)
 rw [if_pos c29] at H
 have c29b0 := eq_true c29
 have c29b1 : decide (x11_1.size + tz24.size ≤ 9223372036854775807) = true := decide_eq_true c29
 try have c29b2 : (9223372036854775807 < x11_1.size + tz24.size) = False := eq_false (Nat.not_lt.2 c29)
 obtain ⟨sx30, hsx30⟩ : ∃ s_ : ByteArray, (x11_1 ++ tz24) = s_ := ⟨_, rfl⟩
 replace H : (if tz26 = 0 then (columbariumlaw15_VaultKeeps.j2 kj21 l1 tz1 tz22 x11_1 x12_1 tz24 (tz26 == 0) tz24 tz3 tz6 xz22000_1 xz22001_1 xz22002_1 xz22003_1 xz22004_1) else (columbariumlaw15_VaultKeeps.j2 kj21 l1 tz1 tz22 x11_1 x12_1 tz24 (tz26 == 0) sx30 tz3 tz6 xz22000_1 xz22001_1 xz22002_1 xz22003_1 xz22004_1)) = some r := by first | (rw [hsx30] at H; exact H) | (simp only [hsx30] at H ⊢; exact H) | exact H
 have HC31 := am H
 clear H
 have pz23 : 0 ≤ (x12_1 : Int) := of_decide_eq_true (by first | (with_reducible assumption) | assumption)
 have qz23 : x12_1 < (l1.length : Int) := of_decide_eq_true (by first | (with_reducible assumption) | assumption)
 obtain ⟨adz23, ez23, hxz23_0, hxz23_1⟩ := at_T60 HR1.out x12_1 pz23 qz23
 cases ez23
 replace hxz23_0 := (HB.out.cell (World.block_lt_of_cell? w _ hxz23_0)).trans hxz23_0
 replace hxz23_1 := (HB.out.cell (World.block_lt_of_cell? w _ hxz23_1)).trans hxz23_1
 replace pz23 := eq_true pz23
 replace qz23 := eq_true qz23
 go_upto_if 64 with (first | ((with_reducible refine gate_callee (f := 32) rfl ?_); refine goesL_ (some 53) rfl rfl Try.func32 (by kernel_rfl) rfl #[.int .i64 ((rd_T60 l1 x12_1).f0)] rfl (by (try simp only [List.map_toArray, List.map_cons, List.map_nil]) <;> rfl) ?_; (with_reducible refine (columbariumlaw15_Text.calls kj21 ((rd_T60 l1 x12_1).f0) tz24 _ A27.out).mono ?_); rintro e w32 ⟨rfl, hb⟩; refine ⟨_, rfl, ?_⟩; have n0_ := am (Kd.R_below (pr HO_z11000) hb); have n1_ := am (Kd.R_below (pr HO_z11001) hb); have n2_ := am (Kd.R_below (pr HO_z22000) hb); have n3_ := am (Kd.R_below (pr HO_z22001) hb); have n4_ := am (bkB (pk BKz10) hb); have n5_ := am (bkB (pk BKz21) hb); have n6_ := am (below_step (by repeat first | (with_reducible first | exact HB.out | apply ba | apply bn | apply bd | refine bs (by assumption) ?_) | exact HB.out) hb); clear HO_z11000; clear HO_z11001; clear HO_z22000; clear HO_z22001; clear BKz10; clear BKz21; clear HB; have HO_z11000 := n0_; have HO_z11001 := n1_; have HO_z22000 := n2_; have HO_z22001 := n3_; have BKz10 := n4_; have BKz21 := n5_; have HB := n6_; clear n0_ n1_ n2_ n3_ n4_ n5_ n6_; have pz25 : 0 ≤ (x12_1 : Int) := of_decide_eq_true (by first | (with_reducible assumption) | assumption); have qz25 : x12_1 < (l1.length : Int) := of_decide_eq_true (by first | (with_reducible assumption) | assumption); obtain ⟨adz25, ez25, hxz25_0, hxz25_1⟩ := at_T60 HR1.out x12_1 pz25 qz25; obtain rfl : adz23 = adz25 := (by injection ez25); replace hxz25_0 := (HB.out.cell (World.block_lt_of_cell? w _ hxz25_0)).trans hxz25_0; replace hxz25_1 := (HB.out.cell (World.block_lt_of_cell? w _ hxz25_1)).trans hxz25_1; replace pz25 := eq_true pz25; replace qz25 := eq_true qz25) | ((with_reducible refine gate_callee (f := 29) rfl ?_); refine goesL_ (some 59) rfl rfl Try.func29 (by kernel_rfl) rfl #[.int .i64 ((rd_T60 l1 x12_1).f1), .int .i64 3] rfl (by (try simp only [List.map_toArray, List.map_cons, List.map_nil]) <;> rfl) ?_; (with_reducible refine (columbariumlaw15_pick.calls ((rd_T60 l1 x12_1).f1) 3 tz26 _ A28.out).mono ?_); rintro e w' ⟨rfl, ⟨nd, rfl⟩⟩; refine ⟨_, rfl, ?_⟩))
 (try simp only [Act.put, List.setIfInBounds_toArray, List.set_cons_zero, List.set_cons_succ])
 go_cut [14, 15] (fun v14 v15 wc => ∃ (kq : Nat) (x15_30 : ByteArray), v14 = .bool (tz26 == 0) ∧ v15 = .string x15_30 ∧ Aside0 (columbariumlaw15_VaultKeeps.j2 kq l1 tz1 tz22 x11_1 x12_1 tz24 (tz26 == 0) x15_30 tz3 tz6 xz22000_1 xz22001_1 xz22002_1 xz22003_1 xz22004_1 = some r) ∧ Aside0 (kq ≤ kj21) ∧ Aside0 (Kd.R Kd.string 9 wc w.heap.size (fun k_ => some k_ ≠ (uz22000 : Value).ownBlock) (.slice Ao12 tz3.length co12) tz3) ∧ Aside0 (Kd.R k24 24 wc w.heap.size (fun k_ => some k_ ≠ (uz22001 : Value).ownBlock) (.slice Ao14 tz6.length co14) tz6) ∧ Aside0 (Kd.R Kd.string 9 wc w.heap.size (fun k_ => some k_ ≠ ((.slice Ao12 tz3.length co12) : Value).ownBlock) uz22000 xz22000_1) ∧ Aside0 (Kd.R k24 24 wc w.heap.size (fun k_ => some k_ ≠ ((.slice Ao14 tz6.length co14) : Value).ownBlock) uz22001 xz22001_1) ∧ Aside0 (wc.heap[gbz10]? = some (.cells #[(.slice Ao12 tz3.length co12), (.slice Ao14 tz6.length co14)] 30 (0, 0))) ∧ Aside0 (wc.heap[gbz21]? = some (.cells #[uz22000, uz22001, .int .i64 xz22002_1, .int .i64 xz22003_1, .int .i64 xz22004_1] 56 (0, 0))) ∧ Aside0 (Below w.heap.size w wc))
 case first =>
  have H := HC31.out
  clear HC31
  by_cases c33 : tz26 = 0
  ·rw [if_pos c33] at H
   have c33b0 : (tz26 == 0) = true := beq_iff_eq.mpr c33
   have c33b1 : (tz26 != 0) = false := bne_eq_false_iff_eq.mpr c33
   clear c33
   (first | rw [c33b0] | rw [c33b1] | (simp only [i64_w, i32_w]; rw [c33b0]) | skip)
   have H' := am H
   clear H
   go_wp2
   go_meet
   case rel => exact ⟨_, (tz24), (by first | rfl | (rw [c33b0])), (by first | rfl | (simp; done) | (simp [*]; done)), H', ⟨by have := HK1.out; have := HJ21.out; first | omega | exact Nat.le_refl _⟩, ⟨by (with_reducible repeat first | apply ra | apply rn | apply rd); exact HO_z11000.out⟩, ⟨by (with_reducible repeat first | apply ra | apply rn | apply rd); exact HO_z11001.out⟩, ⟨by (with_reducible repeat first | apply ra | apply rn | apply rd); exact HO_z22000.out⟩, ⟨by (with_reducible repeat first | apply ra | apply rn | apply rd); exact HO_z22001.out⟩, ⟨by (with_reducible repeat (first | refine blk_drewN ?_ _ | refine bkD ?_ | refine bkA ?_ _)); exact BKz10.out⟩, ⟨by (with_reducible repeat (first | refine blk_drewN ?_ _ | refine bkD ?_ | refine bkA ?_ _)); exact BKz21.out⟩, ⟨by repeat first | (with_reducible first | exact HB.out | apply ba | apply bn | apply bd | refine bs (by assumption) ?_) | exact HB.out⟩⟩
  rw [if_neg c33] at H
  have c33b0 : (tz26 == 0) = false := beq_eq_false_iff_ne.mpr c33
  have c33b1 : (tz26 != 0) = true := bne_iff_ne.mpr c33
  (first | rw [c33b0] | rw [c33b1] | (simp only [i64_w, i32_w]; rw [c33b0]) | skip)
  have H' := am H
  clear H
  go_wp2
  go_meet
  case rel => exact ⟨_, (sx30), (by first | rfl | (rw [c33b0])), (by first | rfl | (simp; done) | (simp only [← hsx30] <;> (first | rfl | simp)) | (simp [*]; done)), H', ⟨by have := HK1.out; have := HJ21.out; first | omega | exact Nat.le_refl _⟩, ⟨by (with_reducible repeat first | apply ra | apply rn | apply rd); exact HO_z11000.out⟩, ⟨by (with_reducible repeat first | apply ra | apply rn | apply rd); exact HO_z11001.out⟩, ⟨by (with_reducible repeat first | apply ra | apply rn | apply rd); exact HO_z22000.out⟩, ⟨by (with_reducible repeat first | apply ra | apply rn | apply rd); exact HO_z22001.out⟩, ⟨by (with_reducible repeat (first | refine blk_drewN ?_ _ | refine bkD ?_ | refine bkA ?_ _)); exact BKz10.out⟩, ⟨by (with_reducible repeat (first | refine blk_drewN ?_ _ | refine bkD ?_ | refine bkA ?_ _)); exact BKz21.out⟩, ⟨by repeat first | (with_reducible first | exact HB.out | apply ba | apply bn | apply bd | refine bs (by assumption) ?_) | exact HB.out⟩⟩
 clear HC31
 try clear c1
 try clear c2
 try clear p2
 try clear c3
 try clear p6
 try clear c7
 try clear c7b0
 try clear c7b1
 try clear c8
 try clear p8
 try clear q8
 try clear hx8
 try clear c14
 try clear c18
 try clear c23
 try clear c23b0
 try clear c23b1
 try clear c24
 try clear c25
 try clear c25b0
 try clear c26
 try clear c26b0
 try clear c28
 try clear c29
 try clear c29b0
 try clear c29b1
 try clear c29b2
 try clear c30
 try clear c31
 try clear c32
 try clear c33
 try clear c33b0
 try clear c33b1
 try clear hcz13_0
 try clear hcz13_1
 try clear hcz19_0
 try clear hcz19_1
 try clear hcz19_2
 try clear hcz19_3
 try clear hcz19_4
 try clear hfz13_0
 try clear hfz13_1
 try clear hfz19_0
 try clear hfz19_1
 try clear hfz19_2
 try clear hfz19_3
 try clear hfz19_4
 try clear hxz23_0
 try clear hxz23_1
 try clear hxz25_0
 try clear hxz25_1
 try clear p2
 try clear p6
 try clear pz23
 try clear pz25
 try clear qz23
 try clear qz25
 obtain ⟨kq, x15_30, rfl, rfl, HA, HJ30, HO_z11000, HO_z11001, HO_z22000, HO_z22001, BKz10, BKz21, HB⟩ := hcut
 cases kq with
 | zero => exact absurd HA.out (by simp [columbariumlaw15_VaultKeeps.j2])
 | succ kj30 => ?_
 have H := HA.out
 clear HA
 simp only [columbariumlaw15_VaultKeeps.j2] at H
 replace H := ob_ H
 obtain ⟨⟨tz27, tz30, tz33, tz34, tz35, tz36⟩, A340, H⟩ := H
 replace H : (if (x15_30.size : Int) > tz22 then (if tz36 = 2 then ((columbariumref15_Same.f kj30 tz27 tz30 tz33 tz34 tz35 xz22000_1 xz22001_1 xz22002_1 xz22003_1 xz22004_1).bind fun tz38 => (if tz38 = true then (columbariumlaw15_VaultKeeps.l0 kj30 l1 tz1 tz22 x11_1 (wrap64 (x12_1 + 1)) tz3 tz6 xz22000_1 xz22001_1 xz22002_1 xz22003_1 xz22004_1) else (none))) else (none)) else ((vault_Open.f tz27 tz30).bind fun btz39 => (if tz36 = 0 then (if btz39.2.2.2.2.2.2 = 0 then (if btz39.2.2.2.2.2.1.toList = x15_30.toList then ((columbariumref15_Same.f kj30 btz39.1 btz39.2.1 btz39.2.2.1 btz39.2.2.2.1 btz39.2.2.2.2.1 tz27 tz30 tz33 tz34 tz35).bind fun tz51 => (if tz51 = true then ((vault_Right.f tz27 tz30 tz33 tz34 tz35).bind fun tz52 => (if tz52 = true then (if tz33 = (wrap64 (xz22002_1 + 1)) then (if tz35 = (x15_30.size : Int) then (columbariumlaw15_VaultKeeps.l0 kj30 l1 tz1 tz22 x15_30 (wrap64 (x12_1 + 1)) tz3 tz6 tz27 tz30 tz33 tz34 tz35) else (none)) else (none)) else (none))) else (none))) else (none)) else (none)) else (none)))) = some r := H
 have A34 := Aside0.mk A340
 clear A340
 by_cases c35 : (x15_30.size : Int) > tz22
 ·rw [if_pos c35] at H
  have c35b0 : decide (tz22 < (x15_30.size : Int)) = true := decide_eq_true c35
  clear c35
  by_cases c36 : tz36 = 2
  rotate_left
  ·rw [if_neg c36] at H
   exact absurd H (by simp)
  rw [if_pos c36] at H
  have c36b0 : (tz36 == 2) = true := beq_iff_eq.mpr c36
  have c36b1 : (tz36 != 2) = false := bne_eq_false_iff_eq.mpr c36
  clear c36
  replace H := ob_ H
  obtain ⟨tz38, A370, H⟩ := H
  replace H : (if tz38 = true then (columbariumlaw15_VaultKeeps.l0 kj30 l1 tz1 tz22 x11_1 (wrap64 (x12_1 + 1)) tz3 tz6 xz22000_1 xz22001_1 xz22002_1 xz22003_1 xz22004_1) else (none)) = some r := H
  have A37 := Aside0.mk A370
  clear A370
  by_cases c38 : tz38 = true
  rotate_left
  ·replace c38 := Bool.eq_false_iff.mpr c38
   subst c38
   have H1 : (none) = some r := by rw [if_neg (show ¬ (false = true) by decide)] at H; exact H
   clear H
   have H := H1
   clear H1
   exact absurd H (by simp)
  subst c38
  have H1 : (columbariumlaw15_VaultKeeps.l0 kj30 l1 tz1 tz22 x11_1 (wrap64 (x12_1 + 1)) tz3 tz6 xz22000_1 xz22001_1 xz22002_1 xz22003_1 xz22004_1) = some r := by rw [if_pos rfl] at H; exact H
  clear H
  have H := H1
  clear H1
  have H' := am H
  clear H
  have hnb39 := NBz21_z10.out
  have hnc39 := NBz10_z21.out
  obtain ⟨hcz40_0, hcz40_1, hcz40_2, hcz40_3, hcz40_4⟩ := bc5 BKz21
  obtain ⟨hfz40_0, hfz40_1, hfz40_2, hfz40_3, hfz40_4⟩ := bf5 BKz21
  obtain ⟨Ao41, co41, eo41⟩ := Kd.R_slice HO_z22000.out
  subst eo41
  obtain ⟨Ao42, co42, eo42⟩ := Kd.R_slice HO_z22001.out
  subst eo42
  go_wp2_with (first | ((with_reducible refine gate_callee (f := 33) rfl ?_); refine goesL_ (some 70) rfl rfl Try.func33 (by kernel_rfl) rfl #[.agg #[.slice Ao41 xz22000_1.length co41, .slice Ao42 xz22001_1.length co42, .int .i64 xz22002_1, .int .i64 xz22003_1, .int .i64 xz22004_1], .string tz24, .bool (tz26 == 0)] rfl (by (try simp only [List.map_toArray, List.map_cons, List.map_nil]) <;> rfl) ?_; (with_reducible refine (vault_Keep.calls _ _ xz22000_1 _ _ xz22001_1 xz22002_1 xz22003_1 xz22004_1 tz24 (tz26 == 0) tz27 tz30 tz33 tz34 tz35 tz36 _ ?side1 ?side2 ?side3 ?side4 A34.out).mono ?_); (case side1 => repeat (first | exact (Kd.R_reads' HO_z22000.out).2.2 | (with_reducible refine Kd.C_alloc ?_ _) | (with_reducible refine Kd.C_drewN ?_ _) | (with_reducible refine Kd.C_drew ?_))); (case side2 => exact (Kd.R_reads' HO_z22000.out).2.1); (case side3 => repeat (first | exact (Kd.R_reads' HO_z22001.out).2.2 | (with_reducible refine Kd.C_alloc ?_ _) | (with_reducible refine Kd.C_drewN ?_ _) | (with_reducible refine Kd.C_drew ?_))); (case side4 => exact (Kd.R_reads' HO_z22001.out).2.1); rintro e w43 ⟨vz28, vz31, rfl, ho0, ho1, hb⟩; refine ⟨_, rfl, ?_⟩; have n0_ := am (Kd.R_elder' (pr HO_z11000) (Kd.R_base ho0) hb); have n1_ := am (Kd.R_elder' (pr HO_z11001) (Kd.R_base ho1) hb); have n2_ := am (Kd.R_elder' (pr HO_z22000) (Kd.R_base ho0) hb); have n3_ := am (Kd.R_elder' (pr HO_z22001) (Kd.R_base ho1) hb); have n4_ := am (Kd.R_lower (Kd.R_new' (Kd.R_new' ho0 (Kd.R_lt (pr HO_z11000))) (Kd.R_lt (pr HO_z22000))) (below_size (by repeat first | (with_reducible first | exact HB.out | apply ba | apply bn | apply bd | refine bs (by assumption) ?_) | exact HB.out))); have n5_ := am (Kd.R_lower (Kd.R_new' (Kd.R_new' ho1 (Kd.R_lt (pr HO_z11001))) (Kd.R_lt (pr HO_z22001))) (below_size (by repeat first | (with_reducible first | exact HB.out | apply ba | apply bn | apply bd | refine bs (by assumption) ?_) | exact HB.out))); have n6_ := am (bkB (pk BKz10) hb); have n7_ := am (bkB (pk BKz21) hb); have n8_ := am (below_step (by repeat first | (with_reducible first | exact HB.out | apply ba | apply bn | apply bd | refine bs (by assumption) ?_) | exact HB.out) hb); clear HO_z11000; clear HO_z11001; clear HO_z22000; clear HO_z22001; clear BKz10; clear BKz21; clear HB; have HO_z11000 := n0_; have HO_z11001 := n1_; have HO_z22000 := n2_; have HO_z22001 := n3_; have HOz29 := n4_; have HOz32 := n5_; have BKz10 := n6_; have BKz21 := n7_; have HB := n8_; clear n0_ n1_ n2_ n3_ n4_ n5_ n6_ n7_ n8_; (try clear ho1)) | ((with_reducible refine gate_dst (N := 16) rfl ?_); (try (refine gate_guard (by rfl) ?_; dsimp only)); refine box_event ?hg (N := 16) ?hd (cs := #[.slice none 0 0, .slice none 0 0, .int .i64 0, .int .i64 0, .int .i64 0]) (t := 56) ?hr ?_; (case hd => rfl); (case hg => rfl); (case hr => first | (go_simp; done) | (go_simp; rfl)); intro gbz37 hg w44 hbox hb; have n0_ := am (Kd.R_below (pr HO_z11000) hb); have n1_ := am (Kd.R_below (pr HO_z11001) hb); have n2_ := am (Kd.R_below (pr HO_z22000) hb); have n3_ := am (Kd.R_below (pr HO_z22001) hb); have n4_ := am (Kd.R_below (pr HOz29) hb); have n5_ := am (Kd.R_below (pr HOz32) hb); have n6_ := am (bkB (pk BKz10) hb); have n7_ := am (bkB (pk BKz21) hb); have n8_ := am (below_step (by repeat first | (with_reducible first | exact HB.out | apply ba | apply bn | apply bd | refine bs (by assumption) ?_) | exact HB.out) hb); have n9_ := am (hbox); have n10_ := ge_ hg (by repeat first | (with_reducible first | exact HB.out | apply ba | apply bn | apply bd | refine bs (by assumption) ?_) | exact HB.out); have n11_ := ge_ hg (by repeat first | (with_reducible first | exact HB.out | apply ba | apply bn | apply bd | refine bs (by assumption) ?_) | exact HB.out); have n12_ := nl_ hg BKz10; have n13_ := ng_ hg BKz10; have n14_ := nl_ hg BKz21; have n15_ := ng_ hg BKz21; clear HO_z11000; clear HO_z11001; clear HO_z22000; clear HO_z22001; clear HOz29; clear HOz32; clear BKz10; clear BKz21; clear HB; have HO_z11000 := n0_; have HO_z11001 := n1_; have HO_z22000 := n2_; have HO_z22001 := n3_; have HOz29 := n4_; have HOz32 := n5_; have BKz10 := n6_; have BKz21 := n7_; have HB := n8_; have BKz37 := n9_; have GWz37 := n10_; have GEz37 := n11_; have NBz10_z37 := n12_; have NBz37_z10 := n13_; have NBz21_z37 := n14_; have NBz37_z21 := n15_; clear n0_ n1_ n2_ n3_ n4_ n5_ n6_ n7_ n8_ n9_ n10_ n11_ n12_ n13_ n14_ n15_; clear hb hbox hg; obtain ⟨Ao45, co45, eo45⟩ := Kd.R_slice HOz29.out; subst eo45; have hnb46 := NBz37_z10.out; have hnc46 := NBz10_z37.out; have hnb47 := NBz37_z21.out; have hnc47 := NBz21_z37.out; obtain ⟨hcz48_0, hcz48_1, hcz48_2, hcz48_3, hcz48_4⟩ := bc5 BKz37; obtain ⟨hfz48_0, hfz48_1, hfz48_2, hfz48_3, hfz48_4⟩ := bf5 BKz37; obtain ⟨Ao49, co49, eo49⟩ := Kd.R_slice HOz32.out; subst eo49; obtain ⟨hcz50_0, hcz50_1, hcz50_2, hcz50_3, hcz50_4⟩ := bc5 BKz21; obtain ⟨hfz50_0, hfz50_1, hfz50_2, hfz50_3, hfz50_4⟩ := bf5 BKz21) | (go_at_call 34; (with_reducible refine (columbariumref15_Same.calls kj30 _ _ tz27 _ _ tz30 tz33 tz34 tz35 _ _ xz22000_1 _ _ xz22001_1 xz22002_1 xz22003_1 xz22004_1 true _ ?side1 ?side2 ?side3 ?side4 ?side5 ?side6 ?side7 ?side8 A37.out).mono ?_); (case side1 => refine (Kd.R_reads' (e := 9) (base := w.heap.size) (ok := fun k_ => ((True ∧ some k_ ≠ (.slice Ao12 tz3.length co12 : Value).ownBlock) ∧ some k_ ≠ (.slice Ao41 xz22000_1.length co41 : Value).ownBlock)) (n := tz27.length) (c := co45) ?_).2.2; exact (by (with_reducible repeat first | apply ra | apply rn | apply rd); exact (rs5 HOz29 BKz37 (by decide)))); (case side2 => exact (Kd.R_reads' HOz29.out).2.1); (case side3 => refine (Kd.R_reads' (e := 24) (base := w.heap.size) (ok := fun k_ => ((True ∧ some k_ ≠ (.slice Ao14 tz6.length co14 : Value).ownBlock) ∧ some k_ ≠ (.slice Ao42 xz22001_1.length co42 : Value).ownBlock)) (n := tz30.length) (c := co49) ?_).2.2; exact (by (with_reducible repeat first | apply ra | apply rn | apply rd); exact (rs5 HOz32 BKz37 (by decide)))); (case side4 => exact (Kd.R_reads' HOz32.out).2.1); (case side5 => refine (Kd.R_reads' (e := 9) (base := w.heap.size) (ok := fun k_ => (some k_ ≠ (.slice Ao12 tz3.length co12 : Value).ownBlock ∧ some k_ ≠ (.slice Ao45 tz27.length co45 : Value).ownBlock)) (n := xz22000_1.length) (c := co41) ?_).2.2; exact (by (with_reducible repeat first | apply ra | apply rn | apply rd); exact (rs5 HO_z22000 BKz37 (by decide)))); (case side6 => exact (Kd.R_reads' HO_z22000.out).2.1); (case side7 => refine (Kd.R_reads' (e := 24) (base := w.heap.size) (ok := fun k_ => (some k_ ≠ (.slice Ao14 tz6.length co14 : Value).ownBlock ∧ some k_ ≠ (.slice Ao49 tz30.length co49 : Value).ownBlock)) (n := xz22001_1.length) (c := co42) ?_).2.2; exact (by (with_reducible repeat first | apply ra | apply rn | apply rd); exact (rs5 HO_z22001 BKz37 (by decide)))); (case side8 => exact (Kd.R_reads' HO_z22001.out).2.1); rintro e w51 ⟨rfl, hb⟩; have n0_ := am (Kd.R_below (by (with_reducible repeat first | apply ra | apply rn | apply rd); exact (rs5 HO_z11000 BKz37 (by decide))) hb); have n1_ := am (Kd.R_below (by (with_reducible repeat first | apply ra | apply rn | apply rd); exact (rs5 HO_z11001 BKz37 (by decide))) hb); have n2_ := am (Kd.R_below (by (with_reducible repeat first | apply ra | apply rn | apply rd); exact (rs5 HO_z22000 BKz37 (by decide))) hb); have n3_ := am (Kd.R_below (by (with_reducible repeat first | apply ra | apply rn | apply rd); exact (rs5 HO_z22001 BKz37 (by decide))) hb); have n4_ := am (Kd.R_below (by (with_reducible repeat first | apply ra | apply rn | apply rd); exact (rs5 HOz29 BKz37 (by decide))) hb); have n5_ := am (Kd.R_below (by (with_reducible repeat first | apply ra | apply rn | apply rd); exact (rs5 HOz32 BKz37 (by decide))) hb); have n6_ := am (bkB (g := gbz10) (o := .cells #[.slice Ao12 tz3.length co12, .slice Ao14 tz6.length co14] 30 (0, 0)) (by (with_reducible repeat (first | refine blk_drewN ?_ _ | refine bkD ?_ | refine bkA ?_ _)); refine br5 ?_ NBz10_z37; exact pk BKz10) hb); have n7_ := am (bkB (g := gbz21) (o := .cells #[.slice Ao41 xz22000_1.length co41, .slice Ao42 xz22001_1.length co42, .int .i64 xz22002_1, .int .i64 xz22003_1, .int .i64 xz22004_1] 56 (0, 0)) (by (with_reducible repeat (first | refine blk_drewN ?_ _ | refine bkD ?_ | refine bkA ?_ _)); refine br5 ?_ NBz21_z37; exact pk BKz21) hb); have n8_ := am (bkB (g := gbz37) (o := .cells #[.slice Ao45 tz27.length co45, .slice Ao49 tz30.length co49, .int .i64 tz33, .int .i64 tz34, .int .i64 tz35] 56 (0, 0)) (by (with_reducible repeat (first | refine blk_drewN ?_ _ | refine bkD ?_ | refine bkA ?_ _)); apply bp5; exact pk BKz37) hb); have n9_ := am (below_step (by repeat first | (with_reducible first | exact HB.out | apply ba | apply bn | apply bd | refine bs (by assumption) ?_) | exact HB.out) hb); clear HO_z11000; clear HO_z11001; clear HO_z22000; clear HO_z22001; clear HOz29; clear HOz32; clear BKz10; clear BKz21; clear BKz37; clear HB; have HO_z11000 := n0_; have HO_z11001 := n1_; have HO_z22000 := n2_; have HO_z22001 := n3_; have HOz29 := n4_; have HOz32 := n5_; have BKz10 := n6_; have BKz21 := n7_; have BKz37 := n8_; have HB := n9_; clear n0_ n1_ n2_ n3_ n4_ n5_ n6_ n7_ n8_ n9_; (try clear hi)))
  go_roundg kj30
  case measure => have := HK1.out; have := HJ21.out; have := HJ30.out; omega
  case rel => exact ⟨(x11_1), (wrap64 (x12_1 + 1)), (xz22000_1), (xz22001_1), (xz22002_1), (xz22003_1), (xz22004_1), (.slice Ao41 xz22000_1.length co41), (.slice Ao42 xz22001_1.length co42), (by first | rfl | (simp; done) | (simp [*]; done)), (by first | rfl | (simp; done) | (simp [*]; done)), H', ⟨by have := HK1.out; have := HJ21.out; have := HJ30.out; omega⟩, ⟨by (with_reducible repeat first | apply ra | apply rn | apply rd); exact Kd.R_mono HO_z11000.out (fun _ hk => hk.1)⟩, ⟨by (with_reducible repeat first | apply ra | apply rn | apply rd); exact Kd.R_mono HO_z11001.out (fun _ hk => hk.1)⟩, ⟨by (with_reducible repeat first | apply ra | apply rn | apply rd); exact Kd.R_mono HO_z22000.out (fun _ hk => hk.1)⟩, ⟨by (with_reducible repeat first | apply ra | apply rn | apply rd); exact Kd.R_mono HO_z22001.out (fun _ hk => hk.1)⟩, ⟨by (with_reducible repeat (first | refine blk_drewN ?_ _ | refine bkD ?_ | refine bkA ?_ _)); exact BKz10.out⟩, ⟨by (with_reducible repeat (first | refine blk_drewN ?_ _ | refine bkD ?_ | refine bkA ?_ _)); exact BKz21.out⟩, ⟨by repeat first | (with_reducible first | exact HB.out | apply ba | apply bn | apply bd | refine bs (by assumption) ?_) | exact HB.out⟩⟩
 rw [if_neg c35] at H
 have c35b0 : decide (tz22 < (x15_30.size : Int)) = false := decide_eq_false c35
 clear c35
 replace H := ob_ H
 obtain ⟨⟨tz39, tz42, tz45, tz46, tz47, tz48, tz49⟩, A520, H⟩ := H
 replace H : (if tz36 = 0 then (if tz49 = 0 then (if tz48.toList = x15_30.toList then ((columbariumref15_Same.f kj30 tz39 tz42 tz45 tz46 tz47 tz27 tz30 tz33 tz34 tz35).bind fun tz51 => (if tz51 = true then ((vault_Right.f tz27 tz30 tz33 tz34 tz35).bind fun tz52 => (if tz52 = true then (if tz33 = (wrap64 (xz22002_1 + 1)) then (if tz35 = (x15_30.size : Int) then (columbariumlaw15_VaultKeeps.l0 kj30 l1 tz1 tz22 x15_30 (wrap64 (x12_1 + 1)) tz3 tz6 tz27 tz30 tz33 tz34 tz35) else (none)) else (none)) else (none))) else (none))) else (none)) else (none)) else (none)) = some r := H
 have A52 := Aside0.mk A520
 clear A520
 by_cases c53 : tz36 = 0
 rotate_left
 ·rw [if_neg c53] at H
  exact absurd H (by simp)
 rw [if_pos c53] at H
 have c53b0 : (tz36 == 0) = true := beq_iff_eq.mpr c53
 have c53b1 : (tz36 != 0) = false := bne_eq_false_iff_eq.mpr c53
 clear c53
 by_cases c54 : tz49 = 0
 rotate_left
 ·rw [if_neg c54] at H
  exact absurd H (by simp)
 rw [if_pos c54] at H
 have c54b0 : (tz49 == 0) = true := beq_iff_eq.mpr c54
 have c54b1 : (tz49 != 0) = false := bne_eq_false_iff_eq.mpr c54
 clear c54
 by_cases c55 : tz48.toList = x15_30.toList
 rotate_left
 ·rw [if_neg c55] at H
  exact absurd H (by simp)
 rw [if_pos c55] at H
 have c55b0 : (tz48.toList == x15_30.toList) = true := beq_iff_eq.mpr c55
 have c55b1 : (tz48.toList != x15_30.toList) = false := bne_eq_false_iff_eq.mpr c55
 clear c55
 replace H := ob_ H
 obtain ⟨tz51, A560, H⟩ := H
 replace H : (if tz51 = true then ((vault_Right.f tz27 tz30 tz33 tz34 tz35).bind fun tz52 => (if tz52 = true then (if tz33 = (wrap64 (xz22002_1 + 1)) then (if tz35 = (x15_30.size : Int) then (columbariumlaw15_VaultKeeps.l0 kj30 l1 tz1 tz22 x15_30 (wrap64 (x12_1 + 1)) tz3 tz6 tz27 tz30 tz33 tz34 tz35) else (none)) else (none)) else (none))) else (none)) = some r := H
 have A56 := Aside0.mk A560
 clear A560
 by_cases c57 : tz51 = true
 rotate_left
 ·replace c57 := Bool.eq_false_iff.mpr c57
  subst c57
  have H1 : (none) = some r := by rw [if_neg (show ¬ (false = true) by decide)] at H; exact H
  clear H
  have H := H1
  clear H1
  exact absurd H (by simp)
 subst c57
 have H1 : ((vault_Right.f tz27 tz30 tz33 tz34 tz35).bind fun tz52 => (if tz52 = true then (if tz33 = (wrap64 (xz22002_1 + 1)) then (if tz35 = (x15_30.size : Int) then (columbariumlaw15_VaultKeeps.l0 kj30 l1 tz1 tz22 x15_30 (wrap64 (x12_1 + 1)) tz3 tz6 tz27 tz30 tz33 tz34 tz35) else (none)) else (none)) else (none))) = some r := by rw [if_pos rfl] at H; exact H
 clear H
 have H := H1
 clear H1
 replace H := ob_ H
 obtain ⟨tz52, A580, H⟩ := H
 replace H : (if tz52 = true then (if tz33 = (wrap64 (xz22002_1 + 1)) then (if tz35 = (x15_30.size : Int) then (columbariumlaw15_VaultKeeps.l0 kj30 l1 tz1 tz22 x15_30 (wrap64 (x12_1 + 1)) tz3 tz6 tz27 tz30 tz33 tz34 tz35) else (none)) else (none)) else (none)) = some r := H
 have A58 := Aside0.mk A580
 clear A580
 by_cases c59 : tz52 = true
 rotate_left
 ·replace c59 := Bool.eq_false_iff.mpr c59
  subst c59
  have H1 : (none) = some r := by rw [if_neg (show ¬ (false = true) by decide)] at H; exact H
  clear H
  have H := H1
  clear H1
  exact absurd H (by simp)
 subst c59
 have H1 : (if tz33 = (wrap64 (xz22002_1 + 1)) then (if tz35 = (x15_30.size : Int) then (columbariumlaw15_VaultKeeps.l0 kj30 l1 tz1 tz22 x15_30 (wrap64 (x12_1 + 1)) tz3 tz6 tz27 tz30 tz33 tz34 tz35) else (none)) else (none)) = some r := by rw [if_pos rfl] at H; exact H
 clear H
 have H := H1
 clear H1
 by_cases c60 : tz33 = (wrap64 (xz22002_1 + 1))
 rotate_left
 ·rw [if_neg c60] at H
  exact absurd H (by simp)
 rw [if_pos c60] at H
 have c60b0 : (tz33 == (wrap64 (xz22002_1 + 1))) = true := beq_iff_eq.mpr c60
 have c60b1 : (tz33 != (wrap64 (xz22002_1 + 1))) = false := bne_eq_false_iff_eq.mpr c60
 clear c60
 by_cases c61 : tz35 = (x15_30.size : Int)
 rotate_left
 ·rw [if_neg c61] at H
  exact absurd H (by simp)
 rw [if_pos c61] at H
 have c61b0 : (tz35 == (x15_30.size : Int)) = true := beq_iff_eq.mpr c61
 have c61b1 : (tz35 != (x15_30.size : Int)) = false := bne_eq_false_iff_eq.mpr c61
 clear c61
 have H' := am H
 clear H
 have hnb62 := NBz21_z10.out
 have hnc62 := NBz10_z21.out
 obtain ⟨hcz63_0, hcz63_1, hcz63_2, hcz63_3, hcz63_4⟩ := bc5 BKz21
 obtain ⟨hfz63_0, hfz63_1, hfz63_2, hfz63_3, hfz63_4⟩ := bf5 BKz21
 obtain ⟨Ao64, co64, eo64⟩ := Kd.R_slice HO_z22000.out
 subst eo64
 obtain ⟨Ao65, co65, eo65⟩ := Kd.R_slice HO_z22001.out
 subst eo65
 go_wp2_with (first | ((with_reducible refine gate_callee (f := 33) rfl ?_); refine goesL_ (some 70) rfl rfl Try.func33 (by kernel_rfl) rfl #[.agg #[.slice Ao64 xz22000_1.length co64, .slice Ao65 xz22001_1.length co65, .int .i64 xz22002_1, .int .i64 xz22003_1, .int .i64 xz22004_1], .string tz24, .bool (tz26 == 0)] rfl (by (try simp only [List.map_toArray, List.map_cons, List.map_nil]) <;> rfl) ?_; (with_reducible refine (vault_Keep.calls _ _ xz22000_1 _ _ xz22001_1 xz22002_1 xz22003_1 xz22004_1 tz24 (tz26 == 0) tz27 tz30 tz33 tz34 tz35 tz36 _ ?side1 ?side2 ?side3 ?side4 A34.out).mono ?_); (case side1 => repeat (first | exact (Kd.R_reads' HO_z22000.out).2.2 | (with_reducible refine Kd.C_alloc ?_ _) | (with_reducible refine Kd.C_drewN ?_ _) | (with_reducible refine Kd.C_drew ?_))); (case side2 => exact (Kd.R_reads' HO_z22000.out).2.1); (case side3 => repeat (first | exact (Kd.R_reads' HO_z22001.out).2.2 | (with_reducible refine Kd.C_alloc ?_ _) | (with_reducible refine Kd.C_drewN ?_ _) | (with_reducible refine Kd.C_drew ?_))); (case side4 => exact (Kd.R_reads' HO_z22001.out).2.1); rintro e w66 ⟨vz28, vz31, rfl, ho0, ho1, hb⟩; refine ⟨_, rfl, ?_⟩; have n0_ := am (Kd.R_elder' (pr HO_z11000) (Kd.R_base ho0) hb); have n1_ := am (Kd.R_elder' (pr HO_z11001) (Kd.R_base ho1) hb); have n2_ := am (Kd.R_elder' (pr HO_z22000) (Kd.R_base ho0) hb); have n3_ := am (Kd.R_elder' (pr HO_z22001) (Kd.R_base ho1) hb); have n4_ := am (Kd.R_lower (Kd.R_new' (Kd.R_new' ho0 (Kd.R_lt (pr HO_z11000))) (Kd.R_lt (pr HO_z22000))) (below_size (by repeat first | (with_reducible first | exact HB.out | apply ba | apply bn | apply bd | refine bs (by assumption) ?_) | exact HB.out))); have n5_ := am (Kd.R_lower (Kd.R_new' (Kd.R_new' ho1 (Kd.R_lt (pr HO_z11001))) (Kd.R_lt (pr HO_z22001))) (below_size (by repeat first | (with_reducible first | exact HB.out | apply ba | apply bn | apply bd | refine bs (by assumption) ?_) | exact HB.out))); have n6_ := am (bkB (pk BKz10) hb); have n7_ := am (bkB (pk BKz21) hb); have n8_ := am (below_step (by repeat first | (with_reducible first | exact HB.out | apply ba | apply bn | apply bd | refine bs (by assumption) ?_) | exact HB.out) hb); clear HO_z11000; clear HO_z11001; clear HO_z22000; clear HO_z22001; clear BKz10; clear BKz21; clear HB; have HO_z11000 := n0_; have HO_z11001 := n1_; have HO_z22000 := n2_; have HO_z22001 := n3_; have HOz29 := n4_; have HOz32 := n5_; have BKz10 := n6_; have BKz21 := n7_; have HB := n8_; clear n0_ n1_ n2_ n3_ n4_ n5_ n6_ n7_ n8_; (try clear ho1)) | ((with_reducible refine gate_dst (N := 16) rfl ?_); (try (refine gate_guard (by rfl) ?_; dsimp only)); refine box_event ?hg (N := 16) ?hd (cs := #[.slice none 0 0, .slice none 0 0, .int .i64 0, .int .i64 0, .int .i64 0]) (t := 56) ?hr ?_; (case hd => rfl); (case hg => rfl); (case hr => first | (go_simp; done) | (go_simp; rfl)); intro gbz37 hg w67 hbox hb; have n0_ := am (Kd.R_below (pr HO_z11000) hb); have n1_ := am (Kd.R_below (pr HO_z11001) hb); have n2_ := am (Kd.R_below (pr HO_z22000) hb); have n3_ := am (Kd.R_below (pr HO_z22001) hb); have n4_ := am (Kd.R_below (pr HOz29) hb); have n5_ := am (Kd.R_below (pr HOz32) hb); have n6_ := am (bkB (pk BKz10) hb); have n7_ := am (bkB (pk BKz21) hb); have n8_ := am (below_step (by repeat first | (with_reducible first | exact HB.out | apply ba | apply bn | apply bd | refine bs (by assumption) ?_) | exact HB.out) hb); have n9_ := am (hbox); have n10_ := ge_ hg (by repeat first | (with_reducible first | exact HB.out | apply ba | apply bn | apply bd | refine bs (by assumption) ?_) | exact HB.out); have n11_ := ge_ hg (by repeat first | (with_reducible first | exact HB.out | apply ba | apply bn | apply bd | refine bs (by assumption) ?_) | exact HB.out); have n12_ := nl_ hg BKz10; have n13_ := ng_ hg BKz10; have n14_ := nl_ hg BKz21; have n15_ := ng_ hg BKz21; clear HO_z11000; clear HO_z11001; clear HO_z22000; clear HO_z22001; clear HOz29; clear HOz32; clear BKz10; clear BKz21; clear HB; have HO_z11000 := n0_; have HO_z11001 := n1_; have HO_z22000 := n2_; have HO_z22001 := n3_; have HOz29 := n4_; have HOz32 := n5_; have BKz10 := n6_; have BKz21 := n7_; have HB := n8_; have BKz37 := n9_; have GWz37 := n10_; have GEz37 := n11_; have NBz10_z37 := n12_; have NBz37_z10 := n13_; have NBz21_z37 := n14_; have NBz37_z21 := n15_; clear n0_ n1_ n2_ n3_ n4_ n5_ n6_ n7_ n8_ n9_ n10_ n11_ n12_ n13_ n14_ n15_; clear hb hbox hg; obtain ⟨Ao68, co68, eo68⟩ := Kd.R_slice HOz29.out; subst eo68; have hnb69 := NBz37_z10.out; have hnc69 := NBz10_z37.out; have hnb70 := NBz37_z21.out; have hnc70 := NBz21_z37.out; obtain ⟨hcz71_0, hcz71_1, hcz71_2, hcz71_3, hcz71_4⟩ := bc5 BKz37; obtain ⟨hfz71_0, hfz71_1, hfz71_2, hfz71_3, hfz71_4⟩ := bf5 BKz37; obtain ⟨Ao72, co72, eo72⟩ := Kd.R_slice HOz32.out; subst eo72) | ((with_reducible refine gate_callee (f := 35) rfl ?_); refine goesL_ (some 88) rfl rfl Try.func35 (by kernel_rfl) rfl #[.agg #[.slice Ao68 tz27.length co68, .slice Ao72 tz30.length co72]] rfl (by (try simp only [List.map_toArray, List.map_cons, List.map_nil]) <;> rfl) ?_; (with_reducible refine (vault_Open.calls _ _ tz27 _ _ tz30 tz39 tz42 tz45 tz46 tz47 tz48 tz49 _ ?side1 ?side2 ?side3 ?side4 A52.out).mono ?_); (case side1 => refine (Kd.R_reads' (e := 9) (base := w.heap.size) (ok := fun k_ => ((True ∧ some k_ ≠ (.slice Ao12 tz3.length co12 : Value).ownBlock) ∧ some k_ ≠ (.slice Ao64 xz22000_1.length co64 : Value).ownBlock)) (n := tz27.length) (c := co68) ?_).2.2; exact (by (with_reducible repeat first | apply ra | apply rn | apply rd); exact (rs5 HOz29 BKz37 (by decide)))); (case side2 => exact (Kd.R_reads' HOz29.out).2.1); (case side3 => refine (Kd.R_reads' (e := 24) (base := w.heap.size) (ok := fun k_ => ((True ∧ some k_ ≠ (.slice Ao14 tz6.length co14 : Value).ownBlock) ∧ some k_ ≠ (.slice Ao65 xz22001_1.length co65 : Value).ownBlock)) (n := tz30.length) (c := co72) ?_).2.2; exact (by (with_reducible repeat first | apply ra | apply rn | apply rd); exact (rs5 HOz32 BKz37 (by decide)))); (case side4 => exact (Kd.R_reads' HOz32.out).2.1); rintro e w73 ⟨vz40, vz43, rfl, ho0, ho1, hb⟩; refine ⟨_, rfl, ?_⟩; have n0_ := am (Kd.R_elder' (by (with_reducible repeat first | apply ra | apply rn | apply rd); exact (rs5 HO_z11000 BKz37 (by decide))) (Kd.R_base ho0) hb); have n1_ := am (Kd.R_elder' (by (with_reducible repeat first | apply ra | apply rn | apply rd); exact (rs5 HO_z11001 BKz37 (by decide))) (Kd.R_base ho1) hb); have n2_ := am (Kd.R_elder' (by (with_reducible repeat first | apply ra | apply rn | apply rd); exact (rs5 HO_z22000 BKz37 (by decide))) (Kd.R_base ho0) hb); have n3_ := am (Kd.R_elder' (by (with_reducible repeat first | apply ra | apply rn | apply rd); exact (rs5 HO_z22001 BKz37 (by decide))) (Kd.R_base ho1) hb); have n4_ := am (Kd.R_elder' (by (with_reducible repeat first | apply ra | apply rn | apply rd); exact (rs5 HOz29 BKz37 (by decide))) (Kd.R_base ho0) hb); have n5_ := am (Kd.R_elder' (by (with_reducible repeat first | apply ra | apply rn | apply rd); exact (rs5 HOz32 BKz37 (by decide))) (Kd.R_base ho1) hb); have n6_ := am (Kd.R_lower (Kd.R_new' (Kd.R_new' (Kd.R_new' ho0 (Kd.R_lt (by (with_reducible repeat first | apply ra | apply rn | apply rd); exact (rs5 HO_z11000 BKz37 (by decide))))) (Kd.R_lt (by (with_reducible repeat first | apply ra | apply rn | apply rd); exact (rs5 HO_z22000 BKz37 (by decide))))) (Kd.R_lt (by (with_reducible repeat first | apply ra | apply rn | apply rd); exact (rs5 HOz29 BKz37 (by decide))))) (below_size (by repeat first | (with_reducible first | exact HB.out | apply ba | apply bn | apply bd | refine bs (by assumption) ?_) | exact HB.out))); have n7_ := am (Kd.R_lower (Kd.R_new' (Kd.R_new' (Kd.R_new' ho1 (Kd.R_lt (by (with_reducible repeat first | apply ra | apply rn | apply rd); exact (rs5 HO_z11001 BKz37 (by decide))))) (Kd.R_lt (by (with_reducible repeat first | apply ra | apply rn | apply rd); exact (rs5 HO_z22001 BKz37 (by decide))))) (Kd.R_lt (by (with_reducible repeat first | apply ra | apply rn | apply rd); exact (rs5 HOz32 BKz37 (by decide))))) (below_size (by repeat first | (with_reducible first | exact HB.out | apply ba | apply bn | apply bd | refine bs (by assumption) ?_) | exact HB.out))); have n8_ := am (bkB (g := gbz10) (o := .cells #[.slice Ao12 tz3.length co12, .slice Ao14 tz6.length co14] 30 (0, 0)) (by (with_reducible repeat (first | refine blk_drewN ?_ _ | refine bkD ?_ | refine bkA ?_ _)); refine br5 ?_ NBz10_z37; exact pk BKz10) hb); have n9_ := am (bkB (g := gbz21) (o := .cells #[.slice Ao64 xz22000_1.length co64, .slice Ao65 xz22001_1.length co65, .int .i64 xz22002_1, .int .i64 xz22003_1, .int .i64 xz22004_1] 56 (0, 0)) (by (with_reducible repeat (first | refine blk_drewN ?_ _ | refine bkD ?_ | refine bkA ?_ _)); refine br5 ?_ NBz21_z37; exact pk BKz21) hb); have n10_ := am (bkB (g := gbz37) (o := .cells #[.slice Ao68 tz27.length co68, .slice Ao72 tz30.length co72, .int .i64 tz33, .int .i64 tz34, .int .i64 tz35] 56 (0, 0)) (by (with_reducible repeat (first | refine blk_drewN ?_ _ | refine bkD ?_ | refine bkA ?_ _)); apply bp5; exact pk BKz37) hb); have n11_ := am (below_step (by repeat first | (with_reducible first | exact HB.out | apply ba | apply bn | apply bd | refine bs (by assumption) ?_) | exact HB.out) hb); clear HO_z11000; clear HO_z11001; clear HO_z22000; clear HO_z22001; clear HOz29; clear HOz32; clear BKz10; clear BKz21; clear BKz37; clear HB; have HO_z11000 := n0_; have HO_z11001 := n1_; have HO_z22000 := n2_; have HO_z22001 := n3_; have HOz29 := n4_; have HOz32 := n5_; have HOz41 := n6_; have HOz44 := n7_; have BKz10 := n8_; have BKz21 := n9_; have BKz37 := n10_; have HB := n11_; clear n0_ n1_ n2_ n3_ n4_ n5_ n6_ n7_ n8_ n9_ n10_ n11_; (try clear ho1)) | ((with_reducible refine gate_dst (N := 18) rfl ?_); (try (refine gate_guard (by rfl) ?_; dsimp only)); refine box_event ?hg (N := 18) ?hd (cs := #[.slice none 0 0, .slice none 0 0, .int .i64 0, .int .i64 0, .int .i64 0]) (t := 56) ?hr ?_; (case hd => rfl); (case hg => rfl); (case hr => first | (go_simp; done) | (go_simp; rfl)); intro gbz50 hg w74 hbox hb; have n0_ := am (Kd.R_below (pr HO_z11000) hb); have n1_ := am (Kd.R_below (pr HO_z11001) hb); have n2_ := am (Kd.R_below (pr HO_z22000) hb); have n3_ := am (Kd.R_below (pr HO_z22001) hb); have n4_ := am (Kd.R_below (pr HOz29) hb); have n5_ := am (Kd.R_below (pr HOz32) hb); have n6_ := am (Kd.R_below (pr HOz41) hb); have n7_ := am (Kd.R_below (pr HOz44) hb); have n8_ := am (bkB (pk BKz10) hb); have n9_ := am (bkB (pk BKz21) hb); have n10_ := am (bkB (pk BKz37) hb); have n11_ := am (below_step (by repeat first | (with_reducible first | exact HB.out | apply ba | apply bn | apply bd | refine bs (by assumption) ?_) | exact HB.out) hb); have n12_ := am (hbox); have n13_ := ge_ hg (by repeat first | (with_reducible first | exact HB.out | apply ba | apply bn | apply bd | refine bs (by assumption) ?_) | exact HB.out); have n14_ := ge_ hg (by repeat first | (with_reducible first | exact HB.out | apply ba | apply bn | apply bd | refine bs (by assumption) ?_) | exact HB.out); have n15_ := nl_ hg BKz10; have n16_ := ng_ hg BKz10; have n17_ := nl_ hg BKz21; have n18_ := ng_ hg BKz21; have n19_ := nl_ hg BKz37; have n20_ := ng_ hg BKz37; clear HO_z11000; clear HO_z11001; clear HO_z22000; clear HO_z22001; clear HOz29; clear HOz32; clear HOz41; clear HOz44; clear BKz10; clear BKz21; clear BKz37; clear HB; have HO_z11000 := n0_; have HO_z11001 := n1_; have HO_z22000 := n2_; have HO_z22001 := n3_; have HOz29 := n4_; have HOz32 := n5_; have HOz41 := n6_; have HOz44 := n7_; have BKz10 := n8_; have BKz21 := n9_; have BKz37 := n10_; have HB := n11_; have BKz50 := n12_; have GWz50 := n13_; have GEz50 := n14_; have NBz10_z50 := n15_; have NBz50_z10 := n16_; have NBz21_z50 := n17_; have NBz50_z21 := n18_; have NBz37_z50 := n19_; have NBz50_z37 := n20_; clear n0_ n1_ n2_ n3_ n4_ n5_ n6_ n7_ n8_ n9_ n10_ n11_ n12_ n13_ n14_ n15_ n16_ n17_ n18_ n19_ n20_; clear hb hbox hg; obtain ⟨Ao75, co75, eo75⟩ := Kd.R_slice HOz41.out; subst eo75; have hnb76 := NBz50_z10.out; have hnc76 := NBz10_z50.out; have hnb77 := NBz50_z21.out; have hnc77 := NBz21_z50.out; have hnb78 := NBz50_z37.out; have hnc78 := NBz37_z50.out; obtain ⟨hcz79_0, hcz79_1, hcz79_2, hcz79_3, hcz79_4⟩ := bc5 BKz50; obtain ⟨hfz79_0, hfz79_1, hfz79_2, hfz79_3, hfz79_4⟩ := bf5 BKz50; obtain ⟨Ao80, co80, eo80⟩ := Kd.R_slice HOz44.out; subst eo80; obtain ⟨hcz81_0, hcz81_1, hcz81_2, hcz81_3, hcz81_4⟩ := bc5 BKz37; obtain ⟨hfz81_0, hfz81_1, hfz81_2, hfz81_3, hfz81_4⟩ := bf5 BKz37) | (go_at_call 34; (with_reducible refine (columbariumref15_Same.calls kj30 _ _ tz39 _ _ tz42 tz45 tz46 tz47 _ _ tz27 _ _ tz30 tz33 tz34 tz35 true _ ?side1 ?side2 ?side3 ?side4 ?side5 ?side6 ?side7 ?side8 A56.out).mono ?_); (case side1 => refine (Kd.R_reads' (e := 9) (base := w.heap.size) (ok := fun k_ => (((True ∧ some k_ ≠ (.slice Ao12 tz3.length co12 : Value).ownBlock) ∧ some k_ ≠ (.slice Ao64 xz22000_1.length co64 : Value).ownBlock) ∧ some k_ ≠ (.slice Ao68 tz27.length co68 : Value).ownBlock)) (n := tz39.length) (c := co75) ?_).2.2; exact (by (with_reducible repeat first | apply ra | apply rn | apply rd); exact (rs5 HOz41 BKz50 (by decide)))); (case side2 => exact (Kd.R_reads' HOz41.out).2.1); (case side3 => refine (Kd.R_reads' (e := 24) (base := w.heap.size) (ok := fun k_ => (((True ∧ some k_ ≠ (.slice Ao14 tz6.length co14 : Value).ownBlock) ∧ some k_ ≠ (.slice Ao65 xz22001_1.length co65 : Value).ownBlock) ∧ some k_ ≠ (.slice Ao72 tz30.length co72 : Value).ownBlock)) (n := tz42.length) (c := co80) ?_).2.2; exact (by (with_reducible repeat first | apply ra | apply rn | apply rd); exact (rs5 HOz44 BKz50 (by decide)))); (case side4 => exact (Kd.R_reads' HOz44.out).2.1); (case side5 => refine (Kd.R_reads' (e := 9) (base := w.heap.size) (ok := fun k_ => (((True ∧ some k_ ≠ (.slice Ao12 tz3.length co12 : Value).ownBlock) ∧ some k_ ≠ (.slice Ao64 xz22000_1.length co64 : Value).ownBlock) ∧ some k_ ≠ (.slice Ao75 tz39.length co75 : Value).ownBlock)) (n := tz27.length) (c := co68) ?_).2.2; exact (by (with_reducible repeat first | apply ra | apply rn | apply rd); exact (rs5 HOz29 BKz50 (by decide)))); (case side6 => exact (Kd.R_reads' HOz29.out).2.1); (case side7 => refine (Kd.R_reads' (e := 24) (base := w.heap.size) (ok := fun k_ => (((True ∧ some k_ ≠ (.slice Ao14 tz6.length co14 : Value).ownBlock) ∧ some k_ ≠ (.slice Ao65 xz22001_1.length co65 : Value).ownBlock) ∧ some k_ ≠ (.slice Ao80 tz42.length co80 : Value).ownBlock)) (n := tz30.length) (c := co72) ?_).2.2; exact (by (with_reducible repeat first | apply ra | apply rn | apply rd); exact (rs5 HOz32 BKz50 (by decide)))); (case side8 => exact (Kd.R_reads' HOz32.out).2.1); rintro e w82 ⟨rfl, hb⟩; have n0_ := am (Kd.R_below (by (with_reducible repeat first | apply ra | apply rn | apply rd); exact (rs5 HO_z11000 BKz50 (by decide))) hb); have n1_ := am (Kd.R_below (by (with_reducible repeat first | apply ra | apply rn | apply rd); exact (rs5 HO_z11001 BKz50 (by decide))) hb); have n2_ := am (Kd.R_below (by (with_reducible repeat first | apply ra | apply rn | apply rd); exact (rs5 HO_z22000 BKz50 (by decide))) hb); have n3_ := am (Kd.R_below (by (with_reducible repeat first | apply ra | apply rn | apply rd); exact (rs5 HO_z22001 BKz50 (by decide))) hb); have n4_ := am (Kd.R_below (by (with_reducible repeat first | apply ra | apply rn | apply rd); exact (rs5 HOz29 BKz50 (by decide))) hb); have n5_ := am (Kd.R_below (by (with_reducible repeat first | apply ra | apply rn | apply rd); exact (rs5 HOz32 BKz50 (by decide))) hb); have n6_ := am (Kd.R_below (by (with_reducible repeat first | apply ra | apply rn | apply rd); exact (rs5 HOz41 BKz50 (by decide))) hb); have n7_ := am (Kd.R_below (by (with_reducible repeat first | apply ra | apply rn | apply rd); exact (rs5 HOz44 BKz50 (by decide))) hb); have n8_ := am (bkB (g := gbz10) (o := .cells #[.slice Ao12 tz3.length co12, .slice Ao14 tz6.length co14] 30 (0, 0)) (by (with_reducible repeat (first | refine blk_drewN ?_ _ | refine bkD ?_ | refine bkA ?_ _)); refine br5 ?_ NBz10_z50; exact pk BKz10) hb); have n9_ := am (bkB (g := gbz21) (o := .cells #[.slice Ao64 xz22000_1.length co64, .slice Ao65 xz22001_1.length co65, .int .i64 xz22002_1, .int .i64 xz22003_1, .int .i64 xz22004_1] 56 (0, 0)) (by (with_reducible repeat (first | refine blk_drewN ?_ _ | refine bkD ?_ | refine bkA ?_ _)); refine br5 ?_ NBz21_z50; exact pk BKz21) hb); have n10_ := am (bkB (g := gbz37) (o := .cells #[.slice Ao68 tz27.length co68, .slice Ao72 tz30.length co72, .int .i64 tz33, .int .i64 tz34, .int .i64 tz35] 56 (0, 0)) (by (with_reducible repeat (first | refine blk_drewN ?_ _ | refine bkD ?_ | refine bkA ?_ _)); refine br5 ?_ NBz37_z50; exact pk BKz37) hb); have n11_ := am (bkB (g := gbz50) (o := .cells #[.slice Ao75 tz39.length co75, .slice Ao80 tz42.length co80, .int .i64 tz45, .int .i64 tz46, .int .i64 tz47] 56 (0, 0)) (by (with_reducible repeat (first | refine blk_drewN ?_ _ | refine bkD ?_ | refine bkA ?_ _)); apply bp5; exact pk BKz50) hb); have n12_ := am (below_step (by repeat first | (with_reducible first | exact HB.out | apply ba | apply bn | apply bd | refine bs (by assumption) ?_) | exact HB.out) hb); clear HO_z11000; clear HO_z11001; clear HO_z22000; clear HO_z22001; clear HOz29; clear HOz32; clear HOz41; clear HOz44; clear BKz10; clear BKz21; clear BKz37; clear BKz50; clear HB; have HO_z11000 := n0_; have HO_z11001 := n1_; have HO_z22000 := n2_; have HO_z22001 := n3_; have HOz29 := n4_; have HOz32 := n5_; have HOz41 := n6_; have HOz44 := n7_; have BKz10 := n8_; have BKz21 := n9_; have BKz37 := n10_; have BKz50 := n11_; have HB := n12_; clear n0_ n1_ n2_ n3_ n4_ n5_ n6_ n7_ n8_ n9_ n10_ n11_ n12_; obtain ⟨hcz83_0, hcz83_1, hcz83_2, hcz83_3, hcz83_4⟩ := bc5 BKz37; obtain ⟨hfz83_0, hfz83_1, hfz83_2, hfz83_3, hfz83_4⟩ := bf5 BKz37) | (go_at_call 36; (with_reducible refine (vault_Right.calls _ _ tz27 _ _ tz30 tz33 tz34 tz35 true _ ?side1 ?side2 ?side3 ?side4 A58.out).mono ?_); (case side1 => repeat (first | exact (Kd.R_reads' HOz29.out).2.2 | (with_reducible refine Kd.C_alloc ?_ _) | (with_reducible refine Kd.C_drewN ?_ _) | (with_reducible refine Kd.C_drew ?_))); (case side2 => exact (Kd.R_reads' HOz29.out).2.1); (case side3 => repeat (first | exact (Kd.R_reads' HOz32.out).2.2 | (with_reducible refine Kd.C_alloc ?_ _) | (with_reducible refine Kd.C_drewN ?_ _) | (with_reducible refine Kd.C_drew ?_))); (case side4 => exact (Kd.R_reads' HOz32.out).2.1); rintro e w84 ⟨rfl, hb⟩; have n0_ := am (Kd.R_below (pr HO_z11000) hb); have n1_ := am (Kd.R_below (pr HO_z11001) hb); have n2_ := am (Kd.R_below (pr HO_z22000) hb); have n3_ := am (Kd.R_below (pr HO_z22001) hb); have n4_ := am (Kd.R_below (pr HOz29) hb); have n5_ := am (Kd.R_below (pr HOz32) hb); have n6_ := am (Kd.R_below (pr HOz41) hb); have n7_ := am (Kd.R_below (pr HOz44) hb); have n8_ := am (bkB (pk BKz10) hb); have n9_ := am (bkB (pk BKz21) hb); have n10_ := am (bkB (pk BKz37) hb); have n11_ := am (bkB (pk BKz50) hb); have n12_ := am (below_step (by repeat first | (with_reducible first | exact HB.out | apply ba | apply bn | apply bd | refine bs (by assumption) ?_) | exact HB.out) hb); clear HO_z11000; clear HO_z11001; clear HO_z22000; clear HO_z22001; clear HOz29; clear HOz32; clear HOz41; clear HOz44; clear BKz10; clear BKz21; clear BKz37; clear BKz50; clear HB; have HO_z11000 := n0_; have HO_z11001 := n1_; have HO_z22000 := n2_; have HO_z22001 := n3_; have HOz29 := n4_; have HOz32 := n5_; have HOz41 := n6_; have HOz44 := n7_; have BKz10 := n8_; have BKz21 := n9_; have BKz37 := n10_; have BKz50 := n11_; have HB := n12_; clear n0_ n1_ n2_ n3_ n4_ n5_ n6_ n7_ n8_ n9_ n10_ n11_ n12_; obtain ⟨hcz85_0, hcz85_1, hcz85_2, hcz85_3, hcz85_4⟩ := bc5 BKz37; obtain ⟨hfz85_0, hfz85_1, hfz85_2, hfz85_3, hfz85_4⟩ := bf5 BKz37; obtain ⟨hcz86_0, hcz86_1, hcz86_2, hcz86_3, hcz86_4⟩ := bc5 BKz21; obtain ⟨hfz86_0, hfz86_1, hfz86_2, hfz86_3, hfz86_4⟩ := bf5 BKz21))
 go_roundg kj30
 case measure => have := HK1.out; have := HJ21.out; have := HJ30.out; omega
 case rel => exact ⟨(x15_30), (wrap64 (x12_1 + 1)), (tz27), (tz30), (tz33), (tz34), (tz35), (.slice Ao68 tz27.length co68), (.slice Ao72 tz30.length co72), (by first | rfl | (simp; done) | (simp [*]; done)), (by first | rfl | (simp; done) | (simp [*]; done)), H', ⟨by have := HK1.out; have := HJ21.out; have := HJ30.out; omega⟩, ⟨by (with_reducible repeat first | apply ra | apply rn | apply rd); exact Kd.R_mono (rf5 (Kd.R_types HO_z11000.out BKz21.out (by decide)) (fun _ hk => hk.2)) (fun _ hk => hk.1.1.2)⟩, ⟨by (with_reducible repeat first | apply ra | apply rn | apply rd); exact Kd.R_mono (rf5 (Kd.R_types HO_z11001.out BKz21.out (by decide)) (fun _ hk => hk.2)) (fun _ hk => hk.1.1.2)⟩, ⟨by (with_reducible repeat first | apply ra | apply rn | apply rd); exact Kd.R_mono (rf5 (Kd.R_types HOz29.out BKz21.out (by decide)) (fun _ hk => hk.2)) (fun _ hk => hk.1.1.1.2)⟩, ⟨by (with_reducible repeat first | apply ra | apply rn | apply rd); exact Kd.R_mono (rf5 (Kd.R_types HOz32.out BKz21.out (by decide)) (fun _ hk => hk.2)) (fun _ hk => hk.1.1.1.2)⟩, ⟨by (with_reducible repeat (first | refine blk_drewN ?_ _ | refine bkD ?_ | refine bkA ?_ _)); refine br5 ?_ NBz10_z21; (with_reducible repeat (first | refine blk_drewN ?_ _ | refine bkD ?_ | refine bkA ?_ _)); exact BKz10.out⟩, ⟨by (with_reducible repeat (first | refine blk_drewN ?_ _ | refine bkD ?_ | refine bkA ?_ _)); apply bp5; (with_reducible repeat (first | refine blk_drewN ?_ _ | refine bkD ?_ | refine bkA ?_ _)); exact BKz21.out⟩, ⟨by repeat first | (with_reducible first | exact HB.out | apply ba | apply bn | apply bd | refine bs (by assumption) ?_) | exact HB.out⟩⟩
end Go.Proofs.Ytcfinlmocgbnbaa.Pr
end
section
set_option linter.unusedVariables false
set_option linter.unusedSimpArgs false
namespace Go.Proofs.Ytcfinlmocgbnbaa.Pr
open Go.RowKit Go.Proofs.YtcfinlmocgbnbaaW.PrintWords Go.Proofs.YtcfinlmocgbnbaaW.PrintLast Go.Proofs.YtcfinlmocgbnbaaW.PrintMore
theorem wr_r (i : Nat) (h : i < 1000000) : wrap64 ((i : Int) + 1) = ((i + 1 : Nat) : Int) := by unfold wrap64; omega
theorem blank_r : strOfNums (List.replicate 64 0) = blank := by rfl
theorem rnew_l0 (n : Nat) (hn : n ≤ 400) : ∀ (d i k : Nat), i + d = n → d < k → columbariumref14_New.l0 k n i (List.replicate i blank) = some (List.replicate n blank, [], 0)
  | 0, i, k, h, hk => by
    obtain ⟨k, rfl⟩ : ∃ m, k = m + 1 := ⟨k - 1, by omega⟩
    obtain rfl : i = n := by omega
    simp only [columbariumref14_New.l0]
    rw [if_neg (by omega)]
  | d + 1, i, k, h, hk => by
    obtain ⟨k, rfl⟩ : ∃ m, k = m + 1 := ⟨k - 1, by omega⟩
    simp only [columbariumref14_New.l0]
    rw [if_pos (by omega), if_pos (by omega), if_pos (by simp; omega), wr_r i (by omega), blank_r, ← List.replicate_succ']
    exact rnew_l0 n hn d (i + 1) k (by omega) (by omega)
theorem rnew_eq (n : Int) {k : Nat} (hk : 500 < k) : columbariumref14_New.f k n = some (newB n) := by
  obtain ⟨k, rfl⟩ : ∃ m, k = m + 1 := ⟨k - 1, by omega⟩
  unfold columbariumref14_New.f newB
  by_cases h1 : n < 1
  · rw [if_pos h1, if_neg (by omega)]
    simp [columbariumref14_New.j0]
  · rw [if_neg h1]
    by_cases h2 : n > 400
    · rw [if_neg (by omega), show decide (n > 400) = true by simp; omega]
      simp [columbariumref14_New.j0]
    · rw [if_pos (by omega), show decide (n > 400) = false by simp; omega]
      simp only [columbariumref14_New.j0, Bool.false_eq_true, if_false]
      obtain ⟨m, rfl⟩ : ∃ m : Nat, n = m := ⟨n.toNat, by omega⟩
      exact rnew_l0 m (by omega) m 0 k (by omega) (by omega)
end Go.Proofs.Ytcfinlmocgbnbaa.Pr
end
section
namespace Go.Proofs.Ytcfinlmocgbnbaa.Pr
open Go.RowKit Go.Shelf Go.Proofs.Ytcfinlmocgbnbaa.XB Go.Proofs.YtcfinlmocgbnbaaW.PrintWords Go.Proofs.YtcfinlmocgbnbaaW.PrintMore
set_option linter.unusedVariables false
set_option linter.unusedSimpArgs false
theorem bt_in {a : ByteArray} {p : Nat} (h : p < a.size) : bt a (p : Int) = ((a[p]'h).toNat : Int) := by unfold bt; rw [dif_pos (by simpa using h)]; rfl
theorem bt_left {a b : ByteArray} {p : Nat} (h : p < a.size) : bt (a ++ b) (p : Int) = bt a (p : Int) := by
  rw [bt_in h, bt_in (by rw [ByteArray.size_append]; omega), ByteArray.getElem_append_left h]
theorem bt_right {a b : ByteArray} {p : Nat} (h : a.size ≤ p) (h2 : p < a.size + b.size) : bt (a ++ b) (p : Int) = bt b ((p - a.size : Nat) : Int) := by
  rw [bt_in (by rw [ByteArray.size_append]; omega), bt_in (by omega), ByteArray.getElem_append_right h]
theorem bt_extract {a : ByteArray} {i j p : Nat} (h : p < min j a.size - i) : bt (a.extract i j) (p : Int) = bt a ((i + p : Nat) : Int) := by
  rw [bt_in (by rw [ByteArray.size_extract]; omega), bt_in (by omega), ByteArray.getElem_extract]
theorem bt_mix {x y : ByteArray} {z i : Nat} (hx : z ≤ x.size) (hy : y.size = 64) (hz : z ≤ 64) (hi : i < 64) : bt (x.extract 0 z ++ y.extract z 64) (i : Int) = if i < z then bt x (i : Int) else bt y (i : Int) := by
  have e1 : (x.extract 0 z).size = z := by rw [ByteArray.size_extract]; omega
  by_cases h : i < z
  · rw [if_pos h, bt_left (by omega), bt_extract (by omega)]
    simp
  · rw [if_neg h, bt_right (by omega) (by rw [e1, ByteArray.size_extract]; omega), e1, bt_extract (by omega)]
    congr 1
    omega
theorem mix_size {x y : ByteArray} {z : Nat} (hx : z ≤ x.size) (hy : y.size = 64) (hz : z ≤ 64) : (x.extract 0 z ++ y.extract z 64).size = 64 := by
  rw [ByteArray.size_append, ByteArray.size_extract, ByteArray.size_extract]; omega
theorem bt_blank {i : Nat} (hi : i < 64) : bt blank (i : Int) = 0 := by
  rw [bt_in (by rw [blank_size]; exact hi)]
  have : blank[i]'(by rw [blank_size]; exact hi) = 0 := by
    show (List.replicate 64 (0 : UInt8)).toArray[i]'(by simpa using hi) = 0
    rw [List.getElem_toArray, List.getElem_replicate]
  rw [this]
  rfl
theorem rd_setV {la : List ByteArray} {x : ByteArray} {i b : Nat} (hi : i < la.length) : rdOf ByteArray.empty (la.set i x) (b : Int) = if i = b then x else rdOf ByteArray.empty la b := by
  unfold rdOf
  rw [Int.toNat_natCast, List.getD_eq_getElem?_getD, List.getD_eq_getElem?_getD, List.getElem?_set]
  by_cases h : i = b
  · subst h
    simp [hi]
  · simp [h]
theorem put1_blk {su : List ByteArray} {m : S24} {c : Int} (h0 : 0 ≤ m.f1 ∧ m.f1 < su.length) (b : Nat) : rdOf ByteArray.empty (put1 su m c) (b : Int) = if m.f1 = b then m.f2.extract 0 c.toNat ++ (rdOf ByteArray.empty su b).extract c.toNat (rdOf ByteArray.empty su b).size else rdOf ByteArray.empty su b := by
  obtain ⟨x, hx⟩ : ∃ x : Nat, m.f1 = x := ⟨m.f1.toNat, by omega⟩
  unfold put1
  rw [hx, Int.toNat_natCast, rd_setV (by omega)]
  by_cases h : x = b
  · rw [if_pos h, if_pos (by omega), h]
  · rw [if_neg h, if_neg (by omega)]
theorem fits_put1 {su : List ByteArray} {m : S24} {so : List S24} {c : Int} (h : Fits su (m :: so)) (h0 : 0 ≤ c) (h1 : c ≤ 64) : Fits (put1 su m c) so := by
  obtain ⟨m0, m1⟩ := h.blk m (by simp)
  exact ⟨fun x hx => by rw [put1_len]; exact h.blk x (by simp [hx]), fun x hx => h.byt x (by simp [hx]), put1_sur h.sur ⟨m0, m1⟩ (h.byt m (by simp)) h0 h1⟩
theorem fall_byteV : ∀ (so : List S24) (su : List ByteArray) (cut : Nat → Int) (i : Nat), Fits su so → (∀ j, 0 ≤ cut j ∧ cut j ≤ 64) → ∀ (b j : Nat), b < su.length → j < 64 →
    bt (blkN (fall su so cut i) b) (j : Int) = bt (blkN su b) (j : Int) ∨ ∃ m ∈ so, m.f1 = b ∧ bt (blkN (fall su so cut i) b) (j : Int) = bt m.f2 (j : Int)
  | [], _, _, _, _, _, _, _, _, _ => .inl rfl
  | m :: so, su, cut, i, h, hc, b, j, hb, hj => by
    obtain ⟨m0, m1⟩ := h.blk m (by simp)
    have hm := h.byt m (by simp)
    show bt (blkN (fall (put1 su m (cut i)) so cut (i + 1)) b) _ = _ ∨ ∃ x ∈ m :: so, x.f1 = b ∧ bt (blkN (fall (put1 su m (cut i)) so cut (i + 1)) b) _ = bt x.f2 _
    rcases fall_byteV so _ cut (i + 1) (fits_put1 h (hc i).1 (hc i).2) hc b j (by rw [put1_len]; exact hb) hj with e | ⟨x, hx, h1, h2⟩
    · have hp := put1_blk (su := su) (c := cut i) ⟨m0, m1⟩ b
      have hs := rdS_size h.sur (b := (b : Int)) (by omega) (by omega)
      unfold blkN at e ⊢
      by_cases hxb : m.f1 = b
      · rw [if_pos hxb, hs] at hp
        have hc0 := (hc i).2
        rw [hp, bt_mix (by omega) hs (by omega) hj] at e
        by_cases hlt : j < (cut i).toNat
        · rw [if_pos hlt] at e
          exact .inr ⟨m, by simp, hxb, e⟩
        · rw [if_neg hlt] at e
          exact .inl e
      · rw [if_neg hxb] at hp
        rw [hp] at e
        exact .inl e
    · exact .inr ⟨x, by simp [hx], h1, h2⟩
theorem fall_allV : ∀ (so : List S24) (su : List ByteArray) (i : Nat), Fits su so → ∀ (b : Nat), b < su.length →
    (blkN (fall su so (fun _ => 64) i) b = blkN su b ∧ ∀ m ∈ so, m.f1 ≠ b) ∨ ∃ m ∈ so, m.f1 = b ∧ blkN (fall su so (fun _ => 64) i) b = m.f2
  | [], _, _, _, _, _ => .inl ⟨rfl, fun m hm => by cases hm⟩
  | m :: so, su, i, h, b, hb => by
    obtain ⟨m0, m1⟩ := h.blk m (by simp)
    have hm := h.byt m (by simp)
    show (blkN (fall (put1 su m 64) so (fun _ => 64) (i + 1)) b = _ ∧ _) ∨ ∃ x ∈ m :: so, x.f1 = b ∧ blkN (fall (put1 su m 64) so (fun _ => 64) (i + 1)) b = x.f2
    have hp := put1_blk (su := su) (c := 64) ⟨m0, m1⟩ b
    have hs := rdS_size h.sur (b := (b : Int)) (by omega) (by omega)
    have hs2 : (put1 su m 64).length = su.length := put1_len _ _ _
    rcases fall_allV so (put1 su m 64) (i + 1) (fits_put1 h (by omega) (by omega)) b (by omega) with ⟨e, hno⟩ | ⟨x, hx, h1, h2⟩
    · unfold blkN at e ⊢
      by_cases hxb : m.f1 = b
      · rw [if_pos hxb, hs] at hp
        refine .inr ⟨m, by simp, hxb, e.trans (hp.trans ?_)⟩
        refine bt_ext (n := 64) (mix_size (by rw [hm]; decide) hs (by decide)) hm (fun i hi => ?_)
        rw [bt_mix (by rw [hm]; decide) hs (by decide) hi, if_pos (by show i < 64; exact hi)]
      · rw [if_neg hxb] at hp
        refine .inl ⟨e.trans hp, fun x hx => ?_⟩
        rcases List.mem_cons.1 hx with rfl | hx
        · exact hxb
        · exact hno x hx
    · exact .inr ⟨x, by simp [hx], h1, h2⟩
theorem bt_join {su : List ByteArray} (hz : ∀ s ∈ su, s.size = 64) (at_ : Nat) : ∀ (k p : Nat), at_ + k ≤ su.length → p < 64 * k → bt (joinB su at_ k) (p : Int) = bt (blkN su (at_ + p / 64)) ((p % 64 : Nat) : Int)
  | 0, p, _, hp => by omega
  | k + 1, p, hk, hp => by
    have hsz := joinB_size hz at_ k (by omega)
    have hb := rdS_size hz (b := ((at_ + k : Nat) : Int)) (by omega) (by omega)
    show bt (joinB su at_ k ++ rdOf ByteArray.empty su ((at_ + k : Nat) : Int)) (p : Int) = _
    by_cases h : p < 64 * k
    · rw [bt_left (by omega), bt_join hz at_ k p (by omega) h]
    · rw [bt_right (by omega) (by omega), hsz, show p / 64 = k by omega, show p - 64 * k = p % 64 by omega]
      rfl
def hbt (su : List ByteArray) (h p : Nat) : Int := bt (blkN su (2 + h * wdN su + p / 64)) ((p % 64 : Nat) : Int)
structure GV (n : Nat) (su : List ByteArray) (q h : Nat) (T : ByteArray) : Prop where
  D : Dsk n su []
  n4 : 4 ≤ n
  n400 : n ≤ 400
  h1 : h ≤ 1
  q1 : q ≤ 1000000
  l : T.size ≤ 64 * wdN su
  this : blkN su (q % 2) = headP q h T.size
  other : ∃ q' h' l', HOk (wdN su) q' h' l' ∧ q' % 2 = 1 - q % 2 ∧ Form (blkN su (1 - q % 2)) (headP q' h' l') ∧ (q' < q ∨ blkN su (1 - q % 2) ≠ headP q' h' l')
  txt : ∀ p, p < T.size → hbt su h p = bt T p
theorem bestI_two (m : Nat → HdI) : bestI m 2 = better (better ⟨false, -1, 0, 0⟩ (m 0)) (m 1) := rfl
theorem better_new {b x : HdI} (h1 : x.is = true) (h2 : b.q < x.q) : better b x = x := if_pos ⟨h1, h2⟩
theorem better_old {b x : HdI} (h : x.is = true → x.q ≤ b.q) : better b x = b := if_neg (fun ⟨h1, h2⟩ => by have := h h1; omega)
section
variable {n : Nat} {su : List ByteArray} {q h : Nat} {T : ByteArray}
theorem half_le {wd h : Nat} (hh : h ≤ 1) : h * wd ≤ wd := Nat.le_trans (Nat.mul_le_mul_right _ hh) (by omega)
theorem GV.wd (V : GV n su q h T) : 2 + 2 * wdN su ≤ su.length ∧ wdN su ≤ 200 := by
  have h1 := V.n4
  have h2 := V.n400
  have h3 := V.D.len
  unfold wdN
  omega
theorem GV.ok (V : GV n su q h T) : HOk (wdN su) q h T.size := ⟨by have := V.q1; omega, V.h1, V.l⟩
theorem GV.reads (V : GV n su q h T) : hdI (wdN su) (blkN su (q % 2)) = ⟨true, (q : Int), (h : Int), (T.size : Int)⟩ := by
  rw [V.this]; exact head_reads (by have := V.wd.2; omega) V.ok
theorem GV.less (V : GV n su q h T) (hi : (hdI (wdN su) (blkN su (1 - q % 2))).is = true) : (hdI (wdN su) (blkN su (1 - q % 2))).q < q ∧ nB (blkN su (1 - q % 2)) 0 8 % 2 = 1 - q % 2 := by
  obtain ⟨q', h', l', k, hp, F, hlt⟩ := V.other
  have hw : wdN su ≤ 1000 := by have := V.wd.2; omega
  have e := form_reads hw F k hi
  rcases hlt with hlt | hlt
  · have hr := head_reads hw k
    rw [← e] at hr
    have hq : nB (blkN su (1 - q % 2)) 0 8 = q' := by
      have : ((nB (blkN su (1 - q % 2)) 0 8 : Nat) : Int) = (q' : Int) := congrArg HdI.q hr
      omega
    rw [hr]
    exact ⟨by show (q' : Int) < q; omega, by rw [hq]; exact hp⟩
  · exact absurd e hlt
theorem GV.small (V : GV n su q h T) : smallB (blkN su (1 - q % 2)) = true := by
  obtain ⟨q', h', l', k, hp, F, hlt⟩ := V.other
  have := V.D.len
  have := V.n4
  exact form_small (blk_size V.D.fits.sur (by omega)) F k
theorem GV.right (V : GV n su q h T) : rightB su [] = true := V.D.right (by have := V.n4; omega) V.n400
theorem GV.gs (V : GV n su q h T) : GS su q h T.size := by
  have h1 := V.D.len
  have h2 := V.n4
  have h3 := V.n400
  exact ⟨V.right, by omega, by omega, V.D.fits.sur, V.ok, V.this, V.small, fun hi => (V.less hi).1⟩
theorem GV.text (V : GV n su q h T) : textN su h T.size = T := by
  have ht := text_size V.gs
  refine bt_ext (n := T.size) ht rfl (fun p hp => ?_)
  rw [← V.txt p hp]
  have hl := V.l
  have hw := V.wd.1
  have hh := half_le (wd := wdN su) V.h1
  have hj := joinB_size V.D.fits.sur (2 + h * wdN su) (wdN su) (by omega)
  unfold textN
  rw [bt_extract (by omega), Nat.zero_add, bt_join V.D.fits.sur _ _ _ (by omega) (by omega)]
  rfl
theorem GV.opens (V : GV n su q h T) : vault_Open.f su [] = some (su, [], (q : Int), (h : Int), (T.size : Int), T, 0) := by
  have h1 := V.D.len
  have h2 := V.n4
  have hr := V.reads
  have hq : nB (blkN su (q % 2)) 0 8 = q := by
    have : ((nB (blkN su (q % 2)) 0 8 : Nat) : Int) = (q : Int) := congrArg HdI.q hr
    omega
  have hq1 := V.q1
  have hsm := V.small
  unfold smallB at hsm
  simp only [decide_eq_true_eq] at hsm
  have two : ∀ i : Nat, i < 2 → i = q % 2 ∨ i = 1 - q % 2 := fun i hi => by omega
  have O : OS su := ⟨V.right, by omega, fun i hi => by
      rcases two i hi with e | e
      · rw [e, hq]; omega
      · rw [e]; exact hsm, fun i hi his => by
      rcases two i hi with e | e
      · rw [e, hq]
      · rw [e] at his ⊢; exact (V.less his).2⟩
  have hb : bestN su = ⟨true, (q : Int), (h : Int), (T.size : Int)⟩ := by
    have hl := V.less
    have hu : bestN su = better (better ⟨false, -1, 0, 0⟩ (hdI (wdN su) (blkN su 0))) (hdI (wdN su) (blkN su 1)) := bestI_two _
    rw [hu]
    generalize hg0 : hdI (wdN su) (blkN su 0) = g0 at *
    generalize hg1 : hdI (wdN su) (blkN su 1) = g1 at *
    rcases Nat.mod_two_eq_zero_or_one q with e | e
    · rw [e] at hr hl
      simp only [Nat.sub_zero] at hl
      rw [hg0] at hr
      rw [hg1] at hl
      rw [hr, better_new (b := ⟨false, -1, 0, 0⟩) (x := ⟨true, (q : Int), (h : Int), (T.size : Int)⟩) rfl (by show (-1 : Int) < q; omega), better_old (fun hi => by have := (hl hi).1; show g1.q ≤ (q : Int); omega)]
    · rw [e] at hr hl
      simp only [Nat.sub_self] at hl
      rw [hg1] at hr
      rw [hg0] at hl
      rw [hr, better_new rfl]
      show (better _ g0).q < (q : Int)
      cases hi : g0.is
      · rw [better_old (fun h => by rw [hi] at h; cases h)]
        show (-1 : Int) < q
        omega
      · by_cases hgt : (-1 : Int) < g0.q
        · rw [better_new hi hgt]
          exact (hl hi).1
        · rw [better_old (fun _ => by show g0.q ≤ -1; omega)]
          show (-1 : Int) < q
          omega
  unfold vault_Open.f
  rw [if_pos (open_iff.2 ⟨rfl, O⟩), hb, if_neg (by show ¬ (q : Int) < 0; omega)]
  simp only [Int.toNat_natCast]
  rw [V.text]
theorem GV.rights (V : GV n su q h T) : vault_Right.f su [] (q : Int) (h : Int) (T.size : Int) = some true := by
  unfold vault_Right.f
  rw [if_pos (good_iff.2 ⟨rfl, V.gs⟩)]
theorem GV.rooms (V : GV n su q h T) : vault_Room.f su [] (q : Int) (h : Int) (T.size : Int) = some (64 * (wdN su : Int)) := by
  unfold vault_Room.f
  rw [if_pos (good_iff.2 ⟨rfl, V.gs⟩)]
end
end Go.Proofs.Ytcfinlmocgbnbaa.Pr
end
section
namespace Go.Proofs.Ytcfinlmocgbnbaa.Pr
open Go.RowKit Go.Shelf Go.Proofs.Ytcfinlmocgbnbaa.XB Go.Proofs.YtcfinlmocgbnbaaW.PrintWords Go.Proofs.YtcfinlmocgbnbaaW.PrintMore
set_option linter.unusedVariables false
set_option linter.unusedSimpArgs false
theorem bt_leftK {all : ByteArray} {j i : Nat} (h : 64 * j + i < all.size) : bt (leftK all j) (i : Int) = bt all ((64 * j + i : Nat) : Int) := by unfold leftK; rw [bt_extract (by omega)]
theorem mvU_mem {su : List ByteArray} {all : ByteArray} {same : Int} {at_ : Nat} : ∀ (k : Nat) (m : S24), m ∈ mvU su all same at_ k → ∃ j, j < k ∧ m ∈ mvK su all same at_ j
  | 0, m, h => by cases h
  | k + 1, m, h => by
    rcases List.mem_append.1 h with h | h
    · obtain ⟨j, hj, hm⟩ := mvU_mem k m h
      exact ⟨j, by omega, hm⟩
    · exact ⟨k, by omega, h⟩
theorem mvU_sub {su : List ByteArray} {all : ByteArray} {same : Int} {at_ : Nat} : ∀ (k j : Nat), j < k → ∀ m ∈ mvK su all same at_ j, m ∈ mvU su all same at_ k
  | 0, j, h, _, _ => by omega
  | k + 1, j, h, m, hm => by
    by_cases e : j = k
    · subst e; exact List.mem_append_right _ hm
    · exact List.mem_append_left _ (mvU_sub k j (by omega) m hm)
theorem mvK_is {su : List ByteArray} {all : ByteArray} {same : Int} {at_ j : Nat} {m : S24} (hz : (blkN su (at_ + j)).size = 64) (h : m ∈ mvK su all same at_ j) :
    m.f0 = false ∧ m.f1 = ((at_ + j : Nat) : Int) ∧ m.f2.size = 64 ∧ ∀ i : Nat, i < 64 → bt m.f2 (i : Int) = if 64 * j + i < all.size then bt all ((64 * j + i : Nat) : Int) else bt (blkN su (at_ + j)) (i : Int) := by
  unfold mvK at h
  split at h
  · rename_i hc
    obtain rfl : m = _ := List.mem_singleton.1 h
    have hs : sizeK all.size j ≤ 64 := by unfold sizeK; omega
    have hl : sizeK all.size j ≤ (leftK all j).size := by rw [left_size]; unfold sizeK; omega
    refine ⟨rfl, rfl, mix_size hl hz hs, fun i hi => ?_⟩
    show bt ((leftK all j).extract 0 (sizeK all.size j) ++ (blkN su (at_ + j)).extract (sizeK all.size j) 64) (i : Int) = _
    rw [bt_mix hl hz hs hi]
    have hk : i < sizeK all.size j ↔ 64 * j + i < all.size := by unfold sizeK; omega
    by_cases h1 : i < sizeK all.size j
    · rw [if_pos h1, if_pos (hk.1 h1), bt_leftK (hk.1 h1)]
    · rw [if_neg h1, if_neg (fun h => h1 (hk.2 h))]
  · cases h
theorem mvK_nil {su : List ByteArray} {all : ByteArray} {same : Int} {at_ j : Nat} (h : mvK su all same at_ j = []) {i : Nat} (hi : i < 64) (hp : 64 * j + i < all.size) : (64 * (j : Int) + i) < same := by
  unfold mvK at h
  split at h
  · cases h
  · rename_i hc
    unfold sizeK sameK at hc
    omega
section
variable {n : Nat} {su : List ByteArray} {q h : Nat} {T s : ByteArray} {ins : Bool}
def nextT (T s : ByteArray) (ins : Bool) : ByteArray := if ins = true then s else T ++ s
theorem GV.all (V : GV n su q h T) (s : ByteArray) (ins : Bool) : allN su h T.size s ins = nextT T s ins := by unfold allN nextT; rw [V.text]
def firstN (su : List ByteArray) (q h : Nat) (T s : ByteArray) (ins : Bool) : List S24 :=
  mvU su (nextT T s ins) (((nextT T s ins).size : Int) - (s.size : Int)) (2 + halfN h ins * wdN su) (wdN su) ++ [⟨false, (((q + 1) % 2 : Nat) : Int), blank⟩]
def headM (su : List ByteArray) (q h : Nat) (T s : ByteArray) (ins : Bool) : S24 := ⟨false, (((q + 1) % 2 : Nat) : Int), headP (q + 1) (halfN h ins) (nextT T s ins).size⟩
def syncM : S24 := ⟨true, 0, ⟨#[]⟩⟩
theorem GV.moves (V : GV n su q h T) (s : ByteArray) (ins : Bool) : movesN su q h T.size s ins = firstN su q h T s ins ++ [syncM, headM su q h T s ins, syncM] := by
  unfold movesN firstN headM syncM
  rw [V.all]
  simp
theorem half_one (hh : h ≤ 1) (ins : Bool) : halfN h ins ≤ 1 := by unfold halfN; split <;> omega
theorem GV.first_is (V : GV n su q h T) {m : S24} (hm : m ∈ firstN su q h T s ins) :
    m.f0 = false ∧ m.f2.size = 64 ∧ ((m.f1 = ((1 - q % 2 : Nat) : Int) ∧ m.f2 = blank) ∨ ∃ j, j < wdN su ∧ m.f1 = ((2 + halfN h ins * wdN su + j : Nat) : Int) ∧ ∀ i : Nat, i < 64 → bt m.f2 (i : Int) = if 64 * j + i < (nextT T s ins).size then bt (nextT T s ins) ((64 * j + i : Nat) : Int) else bt (blkN su (2 + halfN h ins * wdN su + j)) (i : Int)) := by
  have hw := V.wd.1
  have hh := half_le (wd := wdN su) (half_one V.h1 ins)
  rcases List.mem_append.1 hm with hm | hm
  · obtain ⟨j, hj, hk⟩ := mvU_mem _ m hm
    obtain ⟨e0, e1, e2, e3⟩ := mvK_is (blk_size V.D.fits.sur (by omega)) hk
    exact ⟨e0, e2, .inr ⟨j, hj, e1, e3⟩⟩
  · obtain rfl : m = _ := List.mem_singleton.1 hm
    exact ⟨rfl, blank_size, .inl ⟨by show (((q + 1) % 2 : Nat) : Int) = _; omega, rfl⟩⟩
theorem GV.first_good (V : GV n su q h T) : ∀ m ∈ firstN su q h T s ins, Good n m := fun m hm => by
  obtain ⟨e0, e2, e⟩ := V.first_is hm
  have hw := V.wd.1
  have hl := V.D.len
  have hh := half_le (wd := wdN su) (half_one V.h1 ins)
  refine ⟨fun h => (by rw [e0] at h; cases h), fun _ => ?_⟩
  rcases e with ⟨e1, _⟩ | ⟨j, hj, e1, _⟩ <;> omega
theorem GV.first_len (V : GV n su q h T) : (firstN su q h T s ins).length ≤ wdN su + 1 := by
  unfold firstN
  have := mvU_len su (nextT T s ins) (((nextT T s ins).size : Int) - (s.size : Int)) (2 + halfN h ins * wdN su) (wdN su)
  simp only [List.length_append, List.length_singleton]
  omega
theorem dsk_apps {so : List S24} (D : Dsk n su []) (hg : ∀ m ∈ so, Good n m) (h0 : ∀ m ∈ so, m.f0 = false) (hl : so.length ≤ 3000) : Dsk n su so :=
  ⟨⟨D.len, hl, ⟨fun m hm => by have := (hg m hm).put (h0 m hm); have := D.len; omega, fun m hm => ((hg m hm).put (h0 m hm)).2.2, D.fits.sur⟩⟩, h0⟩
theorem GV.old (V : GV n su q h T) {so : List S24} (hso : ∀ m ∈ so, m ∈ firstN su q h T s ins) (hlen : so.length ≤ 3000) {cut : Nat → Int} (hc : ∀ j, 0 ≤ cut j ∧ cut j ≤ 64) : GV n (fall su so cut 0) q h T := by
  have Ds : Dsk n su so := dsk_apps V.D (fun m hm => V.first_good m (hso m hm)) (fun m hm => (V.first_is (hso m hm)).1) hlen
  have D2 := dsk_fall Ds hc
  have hl := V.D.len
  have hl2 := D2.len
  have hw := V.wd.1
  have hw2 : wdN (fall su so cut 0) = wdN su := by unfold wdN; rw [hl, hl2]
  have hT := V.l
  have hh := half_le (wd := wdN su) V.h1
  have hh2 := half_le (wd := wdN su) (half_one V.h1 ins)
  have hz := V.D.fits.sur
  have key : ∀ (b j : Nat), b < su.length → j < 64 → bt (blkN (fall su so cut 0) b) (j : Int) = bt (blkN su b) (j : Int) ∨ ∃ m ∈ so, m.f1 = b ∧ bt (blkN (fall su so cut 0) b) (j : Int) = bt m.f2 (j : Int) := fall_byteV so su cut 0 Ds.fits hc
  have sz : ∀ b, b < su.length → (blkN (fall su so cut 0) b).size = 64 := fun b hb => blk_size D2.fits.sur (by omega)
  refine ⟨D2, V.n4, V.n400, V.h1, V.q1, by rw [hw2]; exact hT, ?_, ?_, fun p hp => ?_⟩
  · rw [← V.this]
    refine bt_ext (n := 64) (sz _ (by omega)) (blk_size hz (by omega)) (fun i hi => ?_)
    rcases key (q % 2) i (by omega) hi with e | ⟨m, hm, e1, e2⟩
    · exact e
    · obtain ⟨_, _, (⟨f1, _⟩ | ⟨j, hj, f1, _⟩)⟩ := V.first_is (hso m hm) <;> omega
  · obtain ⟨q', h', l', k, hpar, F, hlt⟩ := V.other
    have F2 : Form (blkN (fall su so cut 0) (1 - q % 2)) (headP q' h' l') := fun i hi => by
      rcases key (1 - q % 2) i (by omega) hi with e | ⟨m, hm, e1, e2⟩
      · rw [e]; exact F i hi
      · obtain ⟨_, _, (⟨f1, f2⟩ | ⟨j, hj, f1, _⟩)⟩ := V.first_is (hso m hm)
        · exact .inl (by rw [e2, f2, bt_blank hi])
        · omega
    refine ⟨q', h', l', by rw [hw2]; exact k, hpar, F2, ?_⟩
    rcases hlt with hlt | hne
    · exact .inl hlt
    · refine .inr (fun e => hne ?_)
      refine bt_ext (n := 64) (blk_size hz (by omega)) (headP_size _ _ _) (fun i hi => ?_)
      rcases key (1 - q % 2) i (by omega) hi with e3 | ⟨m, hm, e1, e2⟩
      · rw [← e3, e]
      · obtain ⟨_, _, (⟨f1, f2⟩ | ⟨j, hj, f1, _⟩)⟩ := V.first_is (hso m hm)
        · rw [f2, bt_blank hi, e] at e2
          rcases F i hi with f | f <;> omega
        · omega
  · rw [← V.txt p hp]
    unfold hbt
    rw [hw2]
    rcases key (2 + h * wdN su + p / 64) (p % 64) (by omega) (by omega) with e | ⟨m, hm, e1, e2⟩
    · exact e
    · obtain ⟨_, _, (⟨f1, f2⟩ | ⟨j, hj, f1, f3⟩)⟩ := V.first_is (hso m hm)
      · omega
      · rw [e2, f3 _ (by omega)]
        have hj2 : halfN h ins = h ∧ j = p / 64 ∧ ins = false := by
          cases ins with
          | false => exact ⟨rfl, by have : halfN h false = h := rfl; rw [this] at f1; omega, rfl⟩
          | true =>
            have e5 : halfN h true = 1 - h := rfl
            rw [e5] at f1
            have h1 := V.h1
            rcases (show h = 0 ∨ h = 1 by omega) with rfl | rfl
            · simp at f1 e1; omega
            · simp at f1 e1; omega
        obtain ⟨g1, rfl, rfl⟩ := hj2
        rw [g1, show 64 * (p / 64) + p % 64 = p by omega]
        have hsz : (nextT T s false).size = T.size + s.size := ByteArray.size_append
        rw [if_pos (by omega), show nextT T s false = T ++ s from rfl, bt_left hp]
        exact (V.txt p hp).symm
end
end Go.Proofs.Ytcfinlmocgbnbaa.Pr
end
section
namespace Go.Proofs.Ytcfinlmocgbnbaa.Pr
open Go.RowKit Go.Shelf Go.Proofs.Ytcfinlmocgbnbaa.XB Go.Proofs.YtcfinlmocgbnbaaW.PrintWords Go.Proofs.YtcfinlmocgbnbaaW.PrintMore
set_option linter.unusedVariables false
set_option linter.unusedSimpArgs false
theorem runL_appV : ∀ (l1 l2 : List S24) (su : List ByteArray) (so : List S24), runL su so (l1 ++ l2) = runL (runL su so l1).1 (runL su so l1).2 l2
  | [], _, _, _ => rfl
  | m :: l1, l2, su, so => by
    simp only [List.cons_append, runL]
    split <;> exact runL_appV l1 l2 _ _
theorem runL_puts : ∀ (l : List S24) (su : List ByteArray) (so : List S24), (∀ m ∈ l, m.f0 = false) → runL su so l = (su, so ++ l)
  | [], _, _, _ => by simp [runL]
  | m :: l, su, so, h => by
    have h0 := h m (by simp)
    simp only [runL, h0, Bool.false_eq_true, if_false]
    rw [runL_puts l su (so ++ [m]) (fun x hx => h x (by simp [hx]))]
    simp
section
variable {n : Nat} {su : List ByteArray} {q h : Nat} {T s : ByteArray} {ins : Bool}
def syncN (su : List ByteArray) (q h : Nat) (T s : ByteArray) (ins : Bool) : List ByteArray := fall su (firstN su q h T s ins) (fun _ => 64) 0
theorem GV.sync_old (V : GV n su q h T) : GV n (syncN su q h T s ins) q h T :=
  V.old (fun m hm => hm) (by have := V.first_len (s := s) (ins := ins); have := V.wd.2; omega) (fun _ => by omega)
theorem GV.first_dsk (V : GV n su q h T) : Dsk n su (firstN su q h T s ins) :=
  dsk_apps V.D V.first_good (fun m hm => (V.first_is hm).1) (by have := V.first_len (s := s) (ins := ins); have := V.wd.2; omega)
theorem GV.sync_blank (V : GV n su q h T) : blkN (syncN su q h T s ins) (1 - q % 2) = blank := by
  have hl := V.D.len
  have h4 := V.n4
  rcases fall_allV _ su 0 (V.first_dsk (s := s) (ins := ins)).fits (1 - q % 2) (by omega) with ⟨_, hno⟩ | ⟨m, hm, e1, e2⟩
  · exact absurd (show (((q + 1) % 2 : Nat) : Int) = ((1 - q % 2 : Nat) : Int) by omega) (hno ⟨false, (((q + 1) % 2 : Nat) : Int), blank⟩ (List.mem_append_right _ (by simp)))
  · obtain ⟨_, _, (⟨f1, f2⟩ | ⟨j, hj, f1, _⟩)⟩ := V.first_is hm
    · exact e2.trans f2
    · omega
theorem GV.sync_text (V : GV n su q h T) (hfit : (nextT T s ins).size ≤ 64 * wdN su) (p : Nat) (hp : p < (nextT T s ins).size) : hbt (syncN su q h T s ins) (halfN h ins) p = bt (nextT T s ins) p := by
  have hl := V.D.len
  have hw := V.wd.1
  have D2 := V.sync_old (s := s) (ins := ins) |>.D
  have hw2 : wdN (syncN su q h T s ins) = wdN su := by have := D2.len; unfold wdN; omega
  have hh2 := half_le (wd := wdN su) (half_one V.h1 ins)
  unfold hbt
  rw [hw2]
  rcases fall_allV _ su 0 (V.first_dsk (s := s) (ins := ins)).fits (2 + halfN h ins * wdN su + p / 64) (by omega) with ⟨e, hno⟩ | ⟨m, hm, e1, e2⟩
  · have hnil : mvK su (nextT T s ins) (((nextT T s ins).size : Int) - (s.size : Int)) (2 + halfN h ins * wdN su) (p / 64) = [] := by
      rcases hk : mvK su (nextT T s ins) (((nextT T s ins).size : Int) - (s.size : Int)) (2 + halfN h ins * wdN su) (p / 64) with _ | ⟨m, l⟩
      · rfl
      · have hm : m ∈ mvK su (nextT T s ins) (((nextT T s ins).size : Int) - (s.size : Int)) (2 + halfN h ins * wdN su) (p / 64) := by rw [hk]; simp
        obtain ⟨_, e1, _⟩ := mvK_is (blk_size V.D.fits.sur (by omega)) hm
        exact absurd e1 (hno m (List.mem_append_left _ (mvU_sub _ _ (by omega) m hm)))
    have hlt := mvK_nil hnil (i := p % 64) (by omega) (by omega)
    rw [show blkN (syncN su q h T s ins) (2 + halfN h ins * wdN su + p / 64) = blkN su (2 + halfN h ins * wdN su + p / 64) from e]
    cases ins with
    | true => have hsz : (nextT T s true) = s := rfl
              rw [hsz] at hlt
              omega
    | false =>
      have hsz : (nextT T s false).size = T.size + s.size := ByteArray.size_append
      rw [show nextT T s false = T ++ s from rfl, bt_left (by omega), show halfN h false = h from rfl]
      exact V.txt p (by omega)
  · obtain ⟨_, _, (⟨f1, f2⟩ | ⟨j, hj, f1, f3⟩)⟩ := V.first_is hm
    · omega
    · obtain rfl : j = p / 64 := by omega
      rw [show blkN (syncN su q h T s ins) (2 + halfN h ins * wdN su + p / 64) = m.f2 from e2, f3 _ (by omega), if_pos (by omega)]
      congr 1
      omega
theorem GV.headed (V : GV n su q h T) (hq : q + 1 ≤ 1000000) (hfit : (nextT T s ins).size ≤ 64 * wdN su) {c : Int} (c0 : 0 ≤ c) (c1 : c ≤ 64) :
    GV n (put1 (syncN su q h T s ins) (headM su q h T s ins) c) q h T ∧ c ≠ 64 ∨ GV n (put1 (syncN su q h T s ins) (headM su q h T s ins) c) (q + 1) (halfN h ins) (nextT T s ins) := by
  have W := V.sync_old (s := s) (ins := ins)
  have hb := V.sync_blank (s := s) (ins := ins)
  have ht := V.sync_text (s := s) (ins := ins) hfit
  have hl0 := V.D.len
  generalize hX : syncN su q h T s ins = X at *
  have hl := W.D.len
  have hw := W.wd.1
  have hwX : wdN X = wdN su := by unfold wdN; omega
  have hf1 : (headM su q h T s ins).f1 = ((1 - q % 2 : Nat) : Int) := by show (((q + 1) % 2 : Nat) : Int) = _; omega
  have hf2 : (headM su q h T s ins).f2 = headP (q + 1) (halfN h ins) (nextT T s ins).size := rfl
  have hf0 : (headM su q h T s ins).f0 = false := rfl
  have h4 := W.n4
  have hlen : (put1 X (headM su q h T s ins) c).length = n := by rw [put1_len]; exact hl
  have hwY : wdN (put1 X (headM su q h T s ins) c) = wdN X := by unfold wdN; omega
  have D2 : Dsk n (put1 X (headM su q h T s ins) c) [] := by
    have D1 : Dsk n X [headM su q h T s ins] := dsk_apps W.D (fun m hm => by
      obtain rfl := List.mem_singleton.1 hm
      exact ⟨fun h => (by cases h), fun _ => ⟨by omega, by omega, headP_size _ _ _⟩⟩) (fun m hm => by obtain rfl := List.mem_singleton.1 hm; rfl) (by simp)
    exact dsk_fall D1 (cut := fun _ => c) (fun _ => ⟨c0, c1⟩)
  have blk : ∀ b : Nat, blkN (put1 X (headM su q h T s ins) c) b = if b = 1 - q % 2 then (headP (q + 1) (halfN h ins) (nextT T s ins).size).extract 0 c.toNat ++ blank.extract c.toNat 64 else blkN X b := fun b => by
    unfold blkN
    rw [put1_blk ⟨by omega, by omega⟩ b, hf1]
    by_cases e : b = 1 - q % 2
    · rw [if_pos (by omega), if_pos e, hf2]
      have hb2 : rdOf ByteArray.empty X (b : Int) = blank := by rw [e]; exact hb
      rw [hb2, blank_size]
    · rw [if_neg (by omega), if_neg e]
  have txt : ∀ (h' p : Nat), 2 + h' * wdN X + p / 64 ≠ 1 - q % 2 → hbt (put1 X (headM su q h T s ins) c) h' p = hbt X h' p := fun h' p hne => by
    unfold hbt
    rw [hwY, blk, if_neg hne]
  have ok2 : HOk (wdN X) (q + 1) (halfN h ins) (nextT T s ins).size := ⟨by omega, half_one V.h1 ins, by rw [hwX]; exact hfit⟩
  have this2 : blkN (put1 X (headM su q h T s ins) c) (q % 2) = headP q h T.size := by rw [blk, if_neg (by omega)]; exact W.this
  by_cases he : blkN (put1 X (headM su q h T s ins) c) (1 - q % 2) = headP (q + 1) (halfN h ins) (nextT T s ins).size
  · refine .inr ⟨D2, h4, W.n400, half_one V.h1 ins, hq, by rw [hwY]; exact ok2.l, ?_, ?_, fun p hp => ?_⟩
    · rw [show (q + 1) % 2 = 1 - q % 2 by omega]
      exact he
    · refine ⟨q, h, T.size, by rw [hwY]; exact W.ok, by omega, ?_, .inl (by omega)⟩
      rw [show 1 - (q + 1) % 2 = q % 2 by omega, this2]
      exact fun i _ => .inr rfl
    · rw [txt _ p (by omega)]
      exact ht p hp
  · refine .inl ⟨⟨D2, h4, W.n400, W.h1, W.q1, by rw [hwY]; exact W.l, this2, ?_, fun p hp => ?_⟩, ?_⟩
    · refine ⟨q + 1, halfN h ins, (nextT T s ins).size, by rw [hwY]; exact ok2, by omega, fun i hi => ?_, .inr he⟩
      rw [blk, if_pos rfl, bt_mix (by rw [headP_size]; omega) blank_size (by omega) hi]
      split
      · exact .inr rfl
      · exact .inl (bt_blank hi)
    · rw [txt _ p (by omega)]
      exact W.txt p hp
    · rintro rfl
      apply he
      rw [blk, if_pos rfl]
      refine bt_ext (n := 64) (mix_size (by rw [headP_size]; decide) blank_size (by decide)) (headP_size _ _ _) (fun i hi => ?_)
      rw [bt_mix (by rw [headP_size]; decide) blank_size (by decide) hi, if_pos (by show i < 64; exact hi)]
def doneN (su : List ByteArray) (q h : Nat) (T s : ByteArray) (ins : Bool) : List ByteArray := put1 (syncN su q h T s ins) (headM su q h T s ins) 64
theorem GV.next (V : GV n su q h T) (hq : q + 1 ≤ 1000000) (hfit : (nextT T s ins).size ≤ 64 * wdN su) : GV n (doneN su q h T s ins) (q + 1) (halfN h ins) (nextT T s ins) := by
  rcases V.headed hq hfit (c := 64) (by omega) (by omega) with ⟨_, h⟩ | h
  · exact absurd rfl h
  · exact h
theorem GV.run_first (V : GV n su q h T) : runL su [] (firstN su q h T s ins) = (su, firstN su q h T s ins) := by
  rw [runL_puts _ _ _ (fun m hm => (V.first_is hm).1)]; simp
theorem GV.moves_good (V : GV n su q h T) : ∀ m ∈ firstN su q h T s ins ++ [syncM, headM su q h T s ins, syncM], Good n m := fun m hm => by
  rcases List.mem_append.1 hm with hm | hm
  · exact V.first_good m hm
  · have h4 := V.n4
    have hs : Good n syncM := sync_good n
    rcases List.mem_cons.1 hm with rfl | hm
    · exact hs
    · rcases List.mem_cons.1 hm with rfl | hm
      · exact ⟨fun h => (by cases h), fun _ => ⟨by show (0 : Int) ≤ (((q + 1) % 2 : Nat) : Int); omega, by show (((q + 1) % 2 : Nat) : Int) < n; omega, headP_size _ _ _⟩⟩
      · obtain rfl := List.mem_singleton.1 hm
        exact hs
theorem doB_of {l : List S24} (D : Dsk n su []) (h1 : 1 ≤ n) (h2 : n ≤ 400) (hg : ∀ m ∈ l, Good n m) (hl : l.length ≤ 3000) : doB su [] l = ((runL su [] l).1, (runL su [] l).2, 0) ∧ Dsk n (runL su [] l).1 (runL su [] l).2 := by
  obtain ⟨e, d, _⟩ := do_ok D h1 h2 hg (by simpa using hl)
  have hlen := D.len
  unfold disk_Do.f at e
  rw [if_pos ⟨by omega, by simp⟩] at e
  exact ⟨Option.some.inj e, d⟩
theorem GV.run_all (V : GV n su q h T) : runL su [] (firstN su q h T s ins ++ [syncM, headM su q h T s ins, syncM]) = (doneN su q h T s ins, []) := by
  rw [runL_appV, V.run_first]
  rfl
theorem GV.keeps (V : GV n su q h T) (hq : q + 1 ≤ 1000000) (hs : s.size ≤ 1000) (hfit : (nextT T s ins).size ≤ 64 * wdN su) :
    vault_Keep.f su [] (q : Int) (h : Int) (T.size : Int) s ins = some (doneN su q h T s ins, [], (q : Int) + 1, (halfN h ins : Int), ((nextT T s ins).size : Int), 0) := by
  have hfl := V.first_len (s := s) (ins := ins)
  have hw := V.wd.2
  have h4 := V.n4
  obtain ⟨e, _⟩ := doB_of V.D (by omega) V.n400 (V.moves_good (s := s) (ins := ins)) (by simp; omega)
  rw [V.run_all] at e
  unfold vault_Keep.f
  rw [if_pos (next_iff.2 ⟨rfl, V.gs, by omega, hs⟩)]
  simp only [Int.toNat_natCast]
  rw [if_pos (show fitsB su h T.size s ins = true from decide_eq_true (by rw [V.all]; exact hfit)), V.moves, e, V.all]
theorem GV.keeps_long (V : GV n su q h T) (hq : q + 1 ≤ 1000000) (hs : s.size ≤ 1000) (hfit : 64 * wdN su < (nextT T s ins).size) :
    vault_Keep.f su [] (q : Int) (h : Int) (T.size : Int) s ins = some (su, [], (q : Int), (h : Int), (T.size : Int), 2) := by
  unfold vault_Keep.f
  rw [if_pos (next_iff.2 ⟨rfl, V.gs, by omega, hs⟩)]
  simp only [Int.toNat_natCast]
  rw [if_neg (fun hf => by have := of_decide_eq_true (show decide ((allN su h T.size s ins).size ≤ 64 * wdN su) = true from hf); rw [V.all] at this; omega)]
end
end Go.Proofs.Ytcfinlmocgbnbaa.Pr
end
section
set_option linter.unusedVariables false
namespace Go.Proofs.Ytcfinlmocgbnbaa.Pr
open Go.RowKit Go.Proofs.YtcfinlmocgbnbaaW.PrintWords Go.ChangeShapes Go.WideShapes Go.ChangeAt
def wf60 (l : List S60) : Prop := ∀ x ∈ l, (Lit.int .i64 x.f0).wf = true ∧ (Lit.int .i64 x.f1).wf = true
section
variable {H : Type} {enc : TypeId × Value → H} {w : World} {base : Nat} {spare : Nat → Bool} {held : Bool} {fuel : Nat}
set_option maxRecDepth 100000 in
theorem open_60 {cs : List Value} {x : DataW H × List MemPlace} (h : DataW.trod enc Try.prog w base spare held fuel 60 cs = some x) :
    ∃ s : S60, cs = [.int .i64 s.f0, .int .i64 s.f1] ∧ (Lit.int .i64 s.f0).wf = true ∧ (Lit.int .i64 s.f1).wf = true := by
  obtain ⟨xs, m, rfl, rfl, hl, hx, he⟩ := DataW.trod_array Try.underlying60 h
  have hc : Try.prog.cellsOf 60 = 2 := by kernel_rfl
  have hc3 : Try.prog.cellsOf 3 = 1 := by kernel_rfl
  rw [hc] at hl
  match cs, hl with
  | [u0, u1], _ =>
    have g : ∀ i, (hi : i < 2) → ∃ n, ((([u0, u1] : List Value).drop (i * 1)).take 1) = [.int .i64 n] ∧ (Lit.int .i64 n).wf = true := fun i hi => by
      have := he i hi
      rw [hc3, List.getElem?_eq_getElem (by omega)] at this
      obtain ⟨n, e, _, hw⟩ := DataW.trod_int Try.underlying3 this
      exact ⟨n, e, hw⟩
    obtain ⟨n0, e0, w0⟩ := g 0 (by omega)
    obtain ⟨n1, e1, w1⟩ := g 1 (by omega)
    simp at e0 e1
    subst e0
    subst e1
    exact ⟨⟨n0, n1⟩, rfl, w0, w1⟩
set_option maxRecDepth 100000 in
theorem open_rows60 {a : Option Addr} {len cap : Nat} {d : DataW H} {p : List MemPlace} (h : DataW.Trod enc Try.prog w base spare held 54 (.slice a len cap) d p) :
    ∃ l : List S60, len = l.length ∧ Kd.C k60 w a l.length l ∧ l.length ≤ cap ∧ l.length ≤ maxLen ∧ wf60 l := by
  obtain ⟨fuel, hf⟩ := h
  have hc : Try.prog.cellsOf 60 = 2 := by kernel_rfl
  rcases DataW.trod_slice Try.underlying54 hf with ⟨hcs, _⟩ | ⟨ad, l, c, elems, rest, n, rfl, hcs, _, _, hlc, hcm, hel, hcell, _⟩
  · simp [Value.cells] at hcs
    obtain ⟨rfl, rfl, rfl⟩ := hcs
    exact ⟨[], rfl, ⟨rfl, by simp, fun h => absurd h (by simp)⟩, by simp, by simp, fun x hx => by cases hx⟩
  · simp [Value.cells] at hcs
    obtain ⟨rfl, rfl, rfl⟩ := hcs
    rw [hc] at hcell
    have each : ∀ i, i < len → ∃ s : S60, (∀ j u, ([.int .i64 s.f0, .int .i64 s.f1] : List Value)[j]? = some u → w.cell? (ad.add (i * 2 + j)) = some u) ∧ (Lit.int .i64 s.f0).wf = true ∧ (Lit.int .i64 s.f1).wf = true := fun i hi => by
      have h1 := hcell i hi
      rw [List.getElem?_eq_getElem (by omega), Option.bind_eq_some_iff] at h1
      obtain ⟨cs, h2, h3⟩ := h1
      obtain ⟨s, rfl, w0, w1⟩ := open_60 h3
      refine ⟨s, fun j u hj => ?_, w0, w1⟩
      have h4 := (World.cells?_some h2).2.2 j (by
        have := (List.getElem?_eq_some_iff.1 hj).1
        simpa using this)
      rw [hj] at h4
      rw [← h4, Addr.add_add]
    clear hcell
    have hs : ∃ l : List S60, l.length = len ∧ ∀ i s, l[i]? = some s → (∀ j u, ([.int .i64 s.f0, .int .i64 s.f1] : List Value)[j]? = some u → w.cell? (ad.add (i * 2 + j)) = some u) ∧ (Lit.int .i64 s.f0).wf = true ∧ (Lit.int .i64 s.f1).wf = true := by
      refine ⟨(List.range len).map fun i => if hi : i < len then (each i hi).choose else z60, by simp, fun i s hi => ?_⟩
      have hl := (List.getElem?_eq_some_iff.1 hi).1
      simp at hl
      simp [hl] at hi
      subst hi
      exact (each i hl).choose_spec
    obtain ⟨l, rfl, hl⟩ := hs
    have hmax : maxLen ≤ 9223372036854775807 := by decide
    refine ⟨l, rfl, ⟨rfl, by omega, fun _ => ⟨ad, rfl, fun j s hj => ⟨_, rfl, k60_mk w s, (hl j s hj).1⟩⟩⟩, hlc, by omega, fun x hx => ?_⟩
    obtain ⟨i, hi⟩ := List.getElem?_of_mem hx
    exact (hl i x hi).2
end
end Go.Proofs.Ytcfinlmocgbnbaa.Pr
end
section
set_option linter.unusedVariables false
set_option linter.unusedSimpArgs false
namespace Go.Proofs.Ytcfinlmocgbnbaa.Pr
open Go.RowKit Go.Proofs.YtcfinlmocgbnbaaW.PrintWords Go.Proofs.YtcfinlmocgbnbaaW.PrintLast Go.Proofs.YtcfinlmocgbnbaaW.PrintMore
theorem pick15 {a n : Int} (ha : I64 a) (hn : 0 < n) (hn2 : n ≤ 1000000) : ∃ p, columbariumlaw15_pick.f a n = some p ∧ 0 ≤ p ∧ p < n := by
  unfold I64 at ha
  unfold columbariumlaw15_pick.f
  by_cases h : a < 0
  · have e1 : wrap64 (a + 1) = a + 1 := by unfold wrap64; omega
    have e2 : wrap64 (-(a + 1)) = -(a + 1) := by unfold wrap64; omega
    rw [if_pos h, if_neg (by omega), e1, e2]
    exact ⟨_, rfl, Int.tmod_nonneg _ (by omega), Int.tmod_lt_of_pos _ hn⟩
  · rw [if_neg h, if_neg (by omega)]
    exact ⟨_, rfl, Int.tmod_nonneg _ (by omega), Int.tmod_lt_of_pos _ hn⟩
theorem text_l0 {c : Nat} (hc : c ≤ 100) : ∀ (d i k : Nat) (xs : List Int), i + d = c → xs.length = i → d < k → ∃ s, columbariumlaw15_Text.l0 k xs (c : Int) (i : Int) = some s ∧ s.size = c
  | 0, i, k, xs, h, hx, hk => by
    obtain ⟨k, rfl⟩ : ∃ m, k = m + 1 := ⟨k - 1, by omega⟩
    simp only [columbariumlaw15_Text.l0]
    rw [if_neg (by omega)]
    exact ⟨_, rfl, by rw [strOf_size]; omega⟩
  | d + 1, i, k, xs, h, hx, hk => by
    obtain ⟨k, rfl⟩ : ∃ m, k = m + 1 := ⟨k - 1, by omega⟩
    simp only [columbariumlaw15_Text.l0]
    rw [if_pos (by omega), if_pos (by omega), show wrap64 ((i : Int) + 1) = ((i + 1 : Nat) : Int) by unfold wrap64; omega]
    exact text_l0 hc d (i + 1) k _ (by omega) (by simp [hx]) (by omega)
theorem text_draw {a : Int} (ha : I64 a) {k : Nat} (hk : 200 < k) : ∃ s, columbariumlaw15_Text.f k a = some s ∧ s.size ≤ 100 := by
  obtain ⟨p, hp, p0, p1⟩ := pick15 ha (n := 101) (by omega) (by omega)
  obtain ⟨c, rfl⟩ : ∃ c : Nat, p = c := ⟨p.toNat, by omega⟩
  obtain ⟨s, hs, hsz⟩ := text_l0 (c := c) (by omega) c 0 k [] (by omega) rfl (by omega)
  refine ⟨s, ?_, by omega⟩
  unfold columbariumlaw15_Text.f
  rw [hp, Option.bind_some]
  exact hs
def wfR60 (l : List S60) : Prop := ∀ x ∈ l, I64 x.f0 ∧ I64 x.f1
theorem rd60_wf {l : List S60} (h : wfR60 l) {i : Nat} (hi : i < l.length) : I64 (rd_T60 l i).f0 ∧ I64 (rd_T60 l i).f1 := by
  have : rd_T60 l i = l[i] := by unfold rd_T60; simp [hi]
  rw [this]
  exact h _ (List.getElem_mem hi)
theorem vsame_ok {n : Nat} {su : List ByteArray} {q h : Nat} {T : ByteArray} (V : GV n su q h T) {k : Nat} (hk : 4000 < k) {a b c : Int} : columbariumref15_Same.f k su [] a b c su [] a b c = some true := by
  unfold columbariumref15_Same.f
  rw [if_pos rfl, if_pos rfl, if_pos rfl, same_ok V.D V.n400 hk]
  rfl
theorem gv_ready {n : Nat} (h4 : 4 ≤ n) (h400 : n ≤ 400) {su : List ByteArray} (D : Dsk n su []) (e0 : blkN su 0 = headP 0 0 0) (e1 : blkN su 1 = blank) : GV n su 0 0 ⟨#[]⟩ := by
  refine ⟨D, h4, h400, by omega, by omega, by show 0 ≤ _; omega, e0, ⟨1, 0, 0, ⟨by omega, by omega, by omega⟩, rfl, fun i hi => .inl (by show bt (blkN su 1) _ = 0; rw [e1]; exact bt_blank hi), .inr ?_⟩, fun p hp => absurd hp (by show ¬ p < 0; omega)⟩
  show blkN su 1 ≠ _
  rw [e1]
  intro e
  have h1 := bt_head2 1 0 0 (i := 0) (by omega)
  rw [← e, bt_blank (by omega), bt_blank (by omega)] at h1
  omega
theorem format_ok {n : Nat} (h4 : 4 ≤ n) (h400 : n ≤ 400) {k : Nat} (hk : 30 ≤ k) : ∃ su, vault_Format.f k (List.replicate n blank) [] = some (su, [], 0, 0, 0, 0) ∧ GV n su 0 0 ⟨#[]⟩ := by
  have D := dsk_new n
  have hr := D.right (by omega) h400
  have hm : vault_may.f (List.replicate n blank) [] = some true := may_ok hr (by simp; omega)
  have hh : vault_book_head.f k [] [] 0 0 0 = some (headP 0 0 0) := at_rounds (g := fun k => vault_book_head.f k [] [] 0 0 0) (fun k => vault_book_head.mono _ _ _ _ _ k) hk (head_eq [] [] 0 0 0)
  obtain ⟨m0, hm0⟩ : ∃ m0 : S24, m0 = ⟨false, 0, headP 0 0 0⟩ := ⟨_, rfl⟩
  obtain ⟨m1, hm1⟩ : ∃ m1 : S24, m1 = ⟨false, 1, blank⟩ := ⟨_, rfl⟩
  have g0 : Good n m0 := by rw [hm0]; exact ⟨fun h => (by cases h), fun _ => ⟨by show (0 : Int) ≤ 0; omega, by show (0 : Int) < n; omega, headP_size _ _ _⟩⟩
  have g1 : Good n m1 := by rw [hm1]; exact ⟨fun h => (by cases h), fun _ => ⟨by show (0 : Int) ≤ 1; omega, by show (1 : Int) < n; omega, blank_size⟩⟩
  have f0 : m0.f0 = false := by rw [hm0]
  have f1 : m1.f0 = false := by rw [hm1]
  have D2 : Dsk n (List.replicate n blank) [m0, m1] := dsk_apps D (fun m hm => by rcases List.mem_cons.1 hm with rfl | hm; (exact g0); (obtain rfl := List.mem_singleton.1 hm; exact g1)) (fun m hm => by rcases List.mem_cons.1 hm with rfl | hm; (exact f0); (obtain rfl := List.mem_singleton.1 hm; exact f1)) (by simp)
  obtain ⟨e, _, _⟩ := do_ok (l := [m0, m1, ⟨true, 0, ⟨#[]⟩⟩]) D (by omega) h400 (fun m hm => by
    rcases List.mem_cons.1 hm with rfl | hm
    · exact g0
    · rcases List.mem_cons.1 hm with rfl | hm
      · exact g1
      · obtain rfl := List.mem_singleton.1 hm; exact sync_good n) (by simp)
  have er : runL (List.replicate n blank) [] [m0, m1, ⟨true, 0, ⟨#[]⟩⟩] = (fall (List.replicate n blank) [m0, m1] (fun _ => 64) 0, []) := by
    simp only [runL, f0, f1, Bool.false_eq_true, if_false, if_true]
    rfl
  rw [er] at e
  have D3 := dsk_fall D2 (cut := fun _ => 64) (fun _ => by omega)
  refine ⟨_, ?_, gv_ready h4 h400 D3 ?_ ?_⟩
  · unfold vault_Format.f
    rw [hm, Option.bind_some, if_pos rfl, hh, Option.bind_some, show vault_blank.f = some blank from rfl, Option.bind_some, ← hm0, ← hm1, e]
    rfl
  · rcases fall_allV [m0, m1] (List.replicate n blank) 0 D2.fits 0 (by simp; omega) with ⟨_, hno⟩ | ⟨m, hm, h1, h2⟩
    · exact absurd (show m0.f1 = ((0 : Nat) : Int) by rw [hm0]; rfl) (hno m0 (by simp))
    · rcases List.mem_cons.1 hm with rfl | hm
      · rw [h2, hm0]
      · obtain rfl := List.mem_singleton.1 hm
        rw [hm1] at h1
        exact absurd h1 (by decide)
  · rcases fall_allV [m0, m1] (List.replicate n blank) 0 D2.fits 1 (by simp; omega) with ⟨_, hno⟩ | ⟨m, hm, h1, h2⟩
    · exact absurd (show m1.f1 = ((1 : Nat) : Int) by rw [hm1]; rfl) (hno m1 (by simp))
    · rcases List.mem_cons.1 hm with rfl | hm
      · rw [hm0] at h1
        exact absurd h1 (by decide)
      · obtain rfl := List.mem_singleton.1 hm
        rw [h2, hm1]
end Go.Proofs.Ytcfinlmocgbnbaa.Pr
end
section
set_option linter.unusedVariables false
set_option linter.unusedSimpArgs false
namespace Go.Proofs.Ytcfinlmocgbnbaa.Pure
open Go.RowKit Go.Proofs.Ytcfinlmocgbnbaa.Pr Go.Proofs.YtcfinlmocgbnbaaW.PrintWords Go.Proofs.YtcfinlmocgbnbaaW.PrintLast Go.Proofs.YtcfinlmocgbnbaaW.PrintMore
theorem wr_nextK (i : Nat) (h : i < 100000000) : wrap64 ((i : Int) + 1) = (i : Int) + 1 := by unfold wrap64; omega
theorem keeps_j {n : Nat} {raw : List S60} (hw : wfR60 raw) {su0 su : List ByteArray} {i k : Nat} {x q h l : Int} {T s : ByteArray} {p : Int} (hi8 : i < 8) (hil : i < raw.length) (hT : T.size ≤ 100000) (hs : columbariumlaw15_Text.f (k + 1) (rd_T60 raw i).f0 = some s) (hsz : s.size ≤ 100) (hp : columbariumlaw15_pick.f (rd_T60 raw i).f1 3 = some p) :
    columbariumlaw15_VaultKeeps.l0 (k + 1 + 1 + 1) raw true x T (i : Int) su0 [] su [] q h l = columbariumlaw15_VaultKeeps.j2 (k + 1) raw true x T (i : Int) s (p == 0) (nextT T s (p == 0)) su0 [] su [] q h l := by
  rw [columbariumlaw15_VaultKeeps.l0, columbariumlaw15_VaultKeeps.j1]
  rw [if_pos (by omega), show decide ((i : Int) < 8) = true from decide_eq_true (by omega), if_pos rfl, if_pos (by omega), if_pos (by omega), hs, Option.bind_some, hp, Option.bind_some, if_pos (by omega)]
  by_cases hp0 : p = 0
  · rw [if_pos hp0, show nextT T s (p == 0) = s by rw [hp0]; rfl]
  · rw [if_neg hp0, show nextT T s (p == 0) = T ++ s by rw [show (p == 0) = false from beq_eq_false_iff_ne.mpr hp0]; rfl]
theorem keeps_fit {k : Nat} {raw : List S60} {su0 su sv : List ByteArray} {x i q h l q' h' l' : Int} {T s u : ByteArray} {ins : Bool} (hx : (u.size : Int) ≤ x) (hl : l' = u.size) (hq : q' = wrap64 (q + 1))
    (hk : vault_Keep.f su [] q h l s ins = some (sv, [], q', h', l', 0)) (ho : vault_Open.f sv [] = some (sv, [], q', h', l', u, 0)) (hsm : columbariumref15_Same.f k sv [] q' h' l' sv [] q' h' l' = some true) (hr : vault_Right.f sv [] q' h' l' = some true) :
    columbariumlaw15_VaultKeeps.j2 (k + 1) raw true x T i s ins u su0 [] su [] q h l = columbariumlaw15_VaultKeeps.l0 k raw true x u (wrap64 (i + 1)) su0 [] sv [] q' h' l' := by
  rw [columbariumlaw15_VaultKeeps.j2, hk, Option.bind_some, if_neg (by omega), ho, Option.bind_some, if_pos rfl, if_pos rfl, if_pos rfl, hsm, Option.bind_some, if_pos rfl, hr, Option.bind_some, if_pos rfl, if_pos hq, if_pos hl]
theorem keeps_long {k : Nat} {raw : List S60} {su0 su : List ByteArray} {x i q h l : Int} {T s u : ByteArray} {ins : Bool} (hx : x < (u.size : Int))
    (hk : vault_Keep.f su [] q h l s ins = some (su, [], q, h, l, 2)) (hsm : columbariumref15_Same.f k su [] q h l su [] q h l = some true) :
    columbariumlaw15_VaultKeeps.j2 (k + 1) raw true x T i s ins u su0 [] su [] q h l = columbariumlaw15_VaultKeeps.l0 k raw true x T (wrap64 (i + 1)) su0 [] su [] q h l := by
  rw [columbariumlaw15_VaultKeeps.j2, hk, Option.bind_some, if_pos (by omega), if_pos rfl, hsm, Option.bind_some, if_pos rfl]
theorem keeps_end {n k : Nat} {raw : List S60} {su0 su : List ByteArray} {i : Nat} {q h l : Int} {T : ByteArray} (hl0 : su0.length = n) (hn : 4 ≤ n) (hn2 : n ≤ 400) (hi : ¬ (i < raw.length ∧ i < 8)) :
    columbariumlaw15_VaultKeeps.l0 (k + 1 + 1) raw true (64 * (wdN su0 : Int)) T (i : Int) su0 [] su [] q h l = some true := by
  have hfin : (64 * (wdN su0 : Int) == wrap64 (64 * wrap64 (Int.tdiv (wrap64 ((su0.length : Int) - 2)) 2))) = true := by
    have e : wrap64 ((su0.length : Int) - 2) = ((su0.length - 2 : Nat) : Int) := by unfold wrap64; omega
    rw [e, Int.tdiv_eq_ediv_of_nonneg (by omega), beq_iff_eq]
    unfold wdN wrap64
    omega
  rw [columbariumlaw15_VaultKeeps.l0, columbariumlaw15_VaultKeeps.j1, columbariumlaw15_VaultKeeps.j1]
  by_cases hlt : (i : Int) < raw.length
  · rw [if_pos hlt, show decide ((i : Int) < 8) = false from decide_eq_false (by omega), if_neg (by decide), if_pos rfl, hfin]
  · rw [if_neg hlt, if_neg (by decide), if_pos rfl, hfin]
theorem keeps_l0 {n : Nat} {raw : List S60} (hw : wfR60 raw) {su0 : List ByteArray} (hl0 : su0.length = n) : ∀ (d i k : Nat) (su : List ByteArray) (q h : Nat) (T : ByteArray), GV n su q h T → q ≤ i → i ≤ 8 → i + d = min raw.length 8 → 3 * d + 5000 < k →
    columbariumlaw15_VaultKeeps.l0 k raw true (64 * (wdN su0 : Int)) T (i : Int) su0 [] su [] (q : Int) (h : Int) (T.size : Int) = some true
  | 0, i, k, su, q, h, T, V, hqi, hi8, hid, hk => by
    obtain ⟨k, rfl⟩ : ∃ m, k = m + 1 + 1 := ⟨k - 2, by omega⟩
    exact keeps_end hl0 V.n4 V.n400 (by omega)
  | d + 1, i, k, su, q, h, T, V, hqi, hi8, hid, hk => by
    obtain ⟨k, rfl⟩ : ∃ m, k = m + 1 + 1 + 1 := ⟨k - 3, by omega⟩
    have hn := V.n4
    have hn2 := V.n400
    have hlen := V.D.len
    have hwd := V.wd.2
    have hTl := V.l
    have hwe : wdN su0 = wdN su := by unfold wdN; omega
    have hil : i < raw.length := by omega
    obtain ⟨w0, w1⟩ := rd60_wf hw hil
    obtain ⟨s, hs, hsz⟩ := text_draw w0 (k := k + 1) (by omega)
    obtain ⟨p, hp, p0, p1⟩ := pick15 w1 (n := 3) (by omega) (by omega)
    rw [keeps_j (n := n) hw (by omega) hil (by omega) hs hsz hp]
    generalize (p == 0) = ins
    by_cases hfit : (nextT T s ins).size ≤ 64 * wdN su
    · have N := V.next (s := s) (ins := ins) (by omega) hfit
      have hS := vsame_ok N (k := k) (by omega) (a := ((q + 1 : Nat) : Int)) (b := (halfN h ins : Int)) (c := ((nextT T s ins).size : Int))
      rw [keeps_fit (by rw [hwe]; omega) rfl (wr_nextK q (by omega)).symm (V.keeps (by omega) (by omega) hfit) N.opens hS N.rights, show wrap64 ((i : Int) + 1) = ((i + 1 : Nat) : Int) from wr_nextK i (by omega)]
      exact keeps_l0 hw hl0 d (i + 1) k _ (q + 1) _ _ N (by omega) (by omega) (by omega) (by omega)
    · rw [keeps_long (by rw [hwe]; omega) (V.keeps_long (by omega) (by omega) (by omega)) (vsame_ok V (by omega)), show wrap64 ((i : Int) + 1) = ((i + 1 : Nat) : Int) from wr_nextK i (by omega)]
      exact keeps_l0 hw hl0 d (i + 1) k _ q _ _ V (by omega) (by omega) (by omega) (by omega)
theorem VaultKeeps (a0 : Int) (l1 : List S60) (h0 : (Lit.int .i64 a0).wf = true) (h1 : l1.length ≤ maxLen) (h2 : wf60 l1) : ∃ k, columbariumlaw15_VaultKeeps.f k a0 l1 = some true := by
  obtain ⟨p, hp, p0, p1⟩ := pick15 (i64_of h0) (n := 9) (by omega) (by omega)
  obtain ⟨n, hn⟩ : ∃ n : Nat, 4 + p = n := ⟨(4 + p).toNat, by omega⟩
  obtain ⟨k, hk⟩ : ∃ k : Nat, 20000 < k := ⟨20001, by omega⟩
  obtain ⟨su, hf, V⟩ := format_ok (n := n) (by omega) (by omega) (k := k) (by omega)
  refine ⟨k, ?_⟩
  unfold columbariumlaw15_VaultKeeps.f
  rw [show columbariumlaw15_awake.f = some true from rfl, Option.bind_some, hp, Option.bind_some, show wrap64 (4 + p) = (n : Int) by unfold wrap64; omega, rnew_eq (n : Int) (by omega), Option.bind_some, show newB (n : Int) = (List.replicate n Pr.blank, [], 0) by unfold newB; rw [if_pos (by omega), Int.toNat_natCast], hf, Option.bind_some]
  simp only [if_true]
  rw [show vault_Room.f su [] 0 0 0 = some (64 * (wdN su : Int)) from V.rooms, Option.bind_some]
  have hw : wdN su = wdN (List.replicate n Pr.blank) := by have := V.D.len; unfold wdN; rw [List.length_replicate]; omega
  rw [hw]
  exact keeps_l0 (fun x hx => ⟨i64_of (h2 x hx).1, i64_of (h2 x hx).2⟩) (by simp) (min l1.length 8) 0 k su 0 0 ⟨#[]⟩ V (by omega) (by omega) (by omega) (by omega)
end Go.Proofs.Ytcfinlmocgbnbaa.Pure
end
