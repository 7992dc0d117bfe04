/-
  A text of what the row IdealTells reaches, laid together by a program of this session (wip/tools/shake.py) out of this seat's texts. No condition but the ones that each lemma names.
-/
import Derived.Test.YtmkncddbecmlpaaZIdealTells1
set_option linter.unusedVariables false
set_option linter.unusedSimpArgs false
section
namespace Go.Proofs.Ytmkncddbecmlpaa.Pr
open Go.Proofs.Ytmkncddbecmlpaa.Sq Go.RowKit Go.Proofs.YtmkncddbecmlpaaW.PrintWords Go.Proofs.YtmkncddbecmlpaaW.PrintLast Go.Proofs.YtmkncddbecmlpaaW.PrintMore
attribute [local go_sem] max2_int min2_int max_two min_two max_three min_three max_four min_four
set_option linter.unusedVariables false
set_option linter.unusedSimpArgs false
def ideal_Seal.j0 : Nat → Bool → ByteArray → Int → List (S72) → List (S74) → Bool → ByteArray → ByteArray → ByteArray → Int → List (S72) → List (S74) → Bool → Option (ByteArray × ByteArray × Int × (List (S72)) × (List (S74)) × Bool × Int)
 | 0, _, _, _, _, _, _, _, _, _, _, _, _, _ => none
 | k + 1, x29, xz2000, xz2001, xz2002, xz2003, xz2004, xz3000, xz4000, xz15000, xz15001, xz15002, xz15003, xz15004 => if x29 = true then (some ((⟨#[]⟩ : ByteArray), xz15000, xz15001, xz15002, xz15003, xz15004, 1)) else ((ideal_find_66.f xz2003 xz3000 xz4000).bind fun btz16 => (if btz16.2.2.2 = true then (some (btz16.2.2.1, xz15000, xz15001, xz15002, xz15003, xz15004, 0)) else (if (xz2003.length : Int) = 2000 then (some ((⟨#[]⟩ : ByteArray), xz15000, xz15001, xz15002, xz15003, xz15004, 2)) else ((tape_Take.f k xz2000 xz2001 40).bind fun btz21 => (if btz21.2.2.2 = 0 then ((ideal_own.f xz2000 xz2001 xz2002 xz2003 xz2004).bind fun btz26 => (if btz26.2.2.2.1.length < 2932031007402 then ((some (btz26.2.2.2.1 ++ [(⟨xz3000, xz4000, btz21.1⟩ : S74)] : List (S74))).bind fun yz35 => ((ideal_clash.f btz21.2.1 btz21.2.2.1 btz26.2.2.1 yz35 btz26.2.2.2.2).bind fun tz38 => (some (btz21.1, btz21.2.1, btz21.2.2.1, btz26.2.2.1, yz35, tz38, 0)))) else (none))) else (some ((⟨#[]⟩ : ByteArray), xz15000, xz15001, xz15002, xz15003, xz15004, btz21.2.2.2)))))))
def ideal_Seal.f (k : Nat) (a0_0 : ByteArray) (a0_1 : Int) (l0_2 : List (S72)) (l0_3 : List (S74)) (a0_4 : Bool) (a1 : ByteArray) (a2 : ByteArray) : Option (ByteArray × ByteArray × Int × (List (S72)) × (List (S74)) × Bool × Int) := (ideal_own.f a0_0 a0_1 l0_2 l0_3 a0_4).bind fun btz5 => ((ideal_Right.f a0_0 a0_1 l0_2 l0_3 a0_4).bind fun tz15 => (if tz15 = true then (if (a1.size : Int) = 16 then (ideal_Seal.j0 k ((a2.size : Int) != 24) a0_0 a0_1 l0_2 l0_3 a0_4 a1 a2 btz5.1 btz5.2.1 btz5.2.2.1 btz5.2.2.2.1 btz5.2.2.2.2) else (ideal_Seal.j0 k true a0_0 a0_1 l0_2 l0_3 a0_4 a1 a2 btz5.1 btz5.2.1 btz5.2.2.1 btz5.2.2.2.1 btz5.2.2.2.2)) else (ideal_Seal.j0 k true a0_0 a0_1 l0_2 l0_3 a0_4 a1 a2 btz5.1 btz5.2.1 btz5.2.2.1 btz5.2.2.2.1 btz5.2.2.2.2)))
def ideal_Seal.T13 : Bool × List (List Nat × List Nat) := (true, [([], []), ([], []), ([1], [1]), ([], []), ([], []), ([], []), ([3, 4, 5], [3, 4, 5]), ([6], [6]), ([2, 7], [2, 7]), ([0, 1, 2], []), ([9, 0, 8, 0, 1, 2], [0, 9]), ([0, 1, 2, 3, 4, 5, 6, 7, 8, 9, 10], []), ([11, 8, 10, 0, 1, 2, 3, 4, 5, 6, 7, 8, 9, 10], [8, 11])])
def ideal_Seal.B13 : List Nat := [0, 0, 2, 0, 0, 0, 56, 120, 254, 7, 1023, 2047, 4095]
theorem ideal_Seal.tab13 : rtab .any (opsOf Try.f41 13) = ideal_Seal.T13 := by kernel_rfl
theorem ideal_Seal.bits13 : waitsOk ideal_Seal.T13.2 ideal_Seal.B13 = true := by kernel_rfl
set_option maxHeartbeats 8000000 in
set_option maxRecDepth 100000 in
theorem ideal_Seal.calls (k : Nat) (a0_0 : ByteArray) (a0_1 : Int) (A0_2 : Option Addr) (c0_2 : Nat) (l0_2 : List (S72)) (A0_3 : Option Addr) (c0_3 : Nat) (l0_3 : List (S74)) (a0_4 : Bool) (a1 : ByteArray) (a2 : ByteArray) (r1 : ByteArray) (r2 : ByteArray) (r3 : Int) (r4 : List (S72)) (r5 : List (S74)) (r6 : Bool) (r7 : Int) (w : World) (hr0_2 : Kd.C k72 w A0_2 l0_2.length l0_2) (hc0_2 : l0_2.length ≤ c0_2) (hr0_3 : Kd.C k74 w A0_3 l0_3.length l0_3) (hc0_3 : l0_3.length ≤ c0_3) (h : ideal_Seal.f k a0_0 a0_1 l0_2 l0_3 a0_4 a1 a2 = some (r1, r2, r3, r4, r5, r6, r7)) :
  Calls Try.prog 41 #[.agg #[.string a0_0, .int .i64 a0_1, .slice A0_2 l0_2.length c0_2, .slice A0_3 l0_3.length c0_3, .bool a0_4], .string a1, .string a2] w fun e w' => ∃ v3_ v4_ : Value, e = .returned (.tuple #[.string r1, .agg #[.string r2, .int .i64 r3, v3_, v4_, .bool r6], .int .i64 r7]) ∧ Kd.R k72 72 w' w.heap.size (fun _ => True) v3_ r4 ∧ Kd.R k74 74 w' w.heap.size (fun _ => True) v4_ r5 ∧ Below w.heap.size w w' := by
 have hu50 := Try.underlying50
 have hu74 := Try.underlying74
 have hu23 := Try.underlying23
 have HR0_2 := am hr0_2
 have HC0_2 := am hc0_2
 clear hr0_2 hc0_2
 have HR0_3 := am hr0_3
 have HC0_3 := am hc0_3
 clear hr0_3 hc0_3
 have HB := am (Below.refl w.heap.size w)
 have H : ((ideal_own.f a0_0 a0_1 l0_2 l0_3 a0_4).bind fun btz5 => ((ideal_Right.f a0_0 a0_1 l0_2 l0_3 a0_4).bind fun tz15 => (if tz15 = true then (if (a1.size : Int) = 16 then (ideal_Seal.j0 k ((a2.size : Int) != 24) a0_0 a0_1 l0_2 l0_3 a0_4 a1 a2 btz5.1 btz5.2.1 btz5.2.2.1 btz5.2.2.2.1 btz5.2.2.2.2) else (ideal_Seal.j0 k true a0_0 a0_1 l0_2 l0_3 a0_4 a1 a2 btz5.1 btz5.2.1 btz5.2.2.1 btz5.2.2.2.1 btz5.2.2.2.2)) else (ideal_Seal.j0 k true a0_0 a0_1 l0_2 l0_3 a0_4 a1 a2 btz5.1 btz5.2.1 btz5.2.2.1 btz5.2.2.2.1 btz5.2.2.2.2)))) = some (r1, r2, r3, r4, r5, r6, r7) := h
 clear h
 replace H := ob_ H
 obtain ⟨⟨tz5, tz6, tz7, tz10, tz13⟩, A40, H⟩ := H
 replace H : ((ideal_Right.f a0_0 a0_1 l0_2 l0_3 a0_4).bind fun tz15 => (if tz15 = true then (if (a1.size : Int) = 16 then (ideal_Seal.j0 k ((a2.size : Int) != 24) a0_0 a0_1 l0_2 l0_3 a0_4 a1 a2 tz5 tz6 tz7 tz10 tz13) else (ideal_Seal.j0 k true a0_0 a0_1 l0_2 l0_3 a0_4 a1 a2 tz5 tz6 tz7 tz10 tz13)) else (ideal_Seal.j0 k true a0_0 a0_1 l0_2 l0_3 a0_4 a1 a2 tz5 tz6 tz7 tz10 tz13))) = some (r1, r2, r3, r4, r5, r6, r7) := H
 have A4 := Aside0.mk A40
 clear A40
 have HC5 := am H
 clear H
 go_enter Try.func41, Try.ntmps41
 go_upto_region 2 with (first | ((with_reducible refine gate_dst (N := 3) rfl ?_); (try (refine gate_guard (by rfl) ?_; dsimp only)); refine box_event ?hg (N := 3) ?hd (cs := #[.string a0_0, .int .i64 a0_1, .slice A0_2 l0_2.length c0_2, .slice A0_3 l0_3.length c0_3, .bool a0_4]) (t := 50) ?hr ?_; (case hd => rfl); (case hg => rfl); (case hr => first | (go_simp; done) | (go_simp; rfl)); intro gbz1 hg w6 hbox hb; have n0_ := am (below_step (pb HB) hb); have n1_ := am (hbox); have n2_ := ge_ hg (pb HB); have n3_ := ge_ hg (pb HB); clear HB; have HB := n0_; have BKz1 := n1_; have GWz1 := n2_; have GEz1 := n3_; clear n0_ n1_ n2_ n3_; clear hb hbox hg) | ((with_reducible refine gate_dst (N := 4) rfl ?_); (try (refine gate_guard (by rfl) ?_; dsimp only)); refine box_event ?hg (N := 4) ?hd (cs := #[.string a1]) (t := 9) ?hr ?_; (case hd => rfl); (case hg => rfl); (case hr => first | (go_simp; done) | (go_simp; rfl)); intro gbz2 hg w7 hbox hb; have n0_ := am (bkB (pk BKz1) hb); have n1_ := am (below_step (sC_ HB) hb); have n2_ := am (hbox); have n3_ := ge_ hg (sC_ HB); have n4_ := ge_ hg (sC_ HB); have n5_ := nl_ hg BKz1; have n6_ := ng_ hg BKz1; clear BKz1; clear HB; have BKz1 := n0_; have HB := n1_; have BKz2 := n2_; have GWz2 := n3_; have GEz2 := n4_; have NBz1_z2 := n5_; have NBz2_z1 := n6_; clear n0_ n1_ n2_ n3_ n4_ n5_ n6_; clear hb hbox hg) | ((with_reducible refine gate_dst (N := 5) rfl ?_); (try (refine gate_guard (by rfl) ?_; dsimp only)); refine box_event ?hg (N := 5) ?hd (cs := #[.string a2]) (t := 9) ?hr ?_; (case hd => rfl); (case hg => rfl); (case hr => first | (go_simp; done) | (go_simp; rfl)); intro gbz3 hg w8 hbox hb; have n0_ := am (bkB (pk BKz1) hb); have n1_ := am (bkB (pk BKz2) hb); have n2_ := am (below_step (sC_ HB) hb); have n3_ := am (hbox); have n4_ := ge_ hg (sC_ HB); have n5_ := ge_ hg (sC_ HB); have n6_ := nl_ hg BKz1; have n7_ := ng_ hg BKz1; have n8_ := nl_ hg BKz2; have n9_ := ng_ hg BKz2; clear BKz1; clear BKz2; clear HB; have BKz1 := n0_; have BKz2 := n1_; have HB := n2_; have BKz3 := n3_; have GWz3 := n4_; have GEz3 := n5_; have NBz1_z3 := n6_; have NBz3_z1 := n7_; have NBz2_z3 := n8_; have NBz3_z2 := n9_; clear n0_ n1_ n2_ n3_ n4_ n5_ n6_ n7_ n8_ n9_; clear hb hbox hg) | ((with_reducible refine gate_dst (N := 7) rfl ?_); (try (refine gate_guard (by rfl) ?_; dsimp only)); refine box_event ?hg (N := 7) ?hd (cs := #[.string (⟨#[]⟩ : ByteArray), .int .i64 0, .slice none 0 0, .slice none 0 0, .bool false]) (t := 50) ?hr ?_; (case hd => rfl); (case hg => rfl); (case hr => first | (go_simp; done) | (go_simp; rfl)); intro gbz4 hg w9 hbox hb; have n0_ := am (bkB (pk BKz1) hb); have n1_ := am (bkB (pk BKz2) hb); have n2_ := am (bkB (pk BKz3) hb); have n3_ := am (below_step (sC_ HB) hb); have n4_ := am (hbox); have n5_ := ge_ hg (sC_ HB); have n6_ := ge_ hg (sC_ HB); have n7_ := nl_ hg BKz1; have n8_ := ng_ hg BKz1; have n9_ := nl_ hg BKz2; have n10_ := ng_ hg BKz2; have n11_ := nl_ hg BKz3; have n12_ := ng_ hg BKz3; clear BKz1; clear BKz2; clear BKz3; clear HB; have BKz1 := n0_; have BKz2 := n1_; have BKz3 := n2_; have HB := n3_; have BKz4 := n4_; have GWz4 := n5_; have GEz4 := n6_; have NBz1_z4 := n7_; have NBz4_z1 := n8_; have NBz2_z4 := n9_; have NBz4_z2 := n10_; have NBz3_z4 := n11_; have NBz4_z3 := n12_; clear n0_ n1_ n2_ n3_ n4_ n5_ n6_ n7_ n8_ n9_ n10_ n11_ n12_; clear hb hbox hg; have hnb10 := NBz1_z2.out; have hnc10 := NBz2_z1.out; have hnb11 := NBz1_z3.out; have hnc11 := NBz3_z1.out; have hnb12 := NBz1_z4.out; have hnc12 := NBz4_z1.out; obtain ⟨hcz13_0, hcz13_1, hcz13_2, hcz13_3, hcz13_4⟩ := bc5 BKz1; obtain ⟨hfz13_0, hfz13_1, hfz13_2, hfz13_3, hfz13_4⟩ := bf5 BKz1) | ((with_reducible refine gate_callee (f := 49) rfl ?_); refine goesL_ (some 16) rfl rfl Try.func49 (by kernel_rfl) rfl #[.agg #[.string a0_0, .int .i64 a0_1, .slice A0_2 l0_2.length c0_2, .slice A0_3 l0_3.length c0_3, .bool a0_4]] rfl (by (try simp only [List.map_toArray, List.map_cons, List.map_nil]) <;> rfl) ?_; (with_reducible refine (ideal_own.calls a0_0 a0_1 _ _ l0_2 _ _ l0_3 a0_4 tz5 tz6 tz7 tz10 tz13 _ ?side1 ?side2 ?side3 ?side4 A4.out).mono ?_); (case side1 => repeat (first | exact (Kd.C_below HR0_2.out HB.out) | (with_reducible refine Kd.C_alloc ?_ _) | (with_reducible refine Kd.C_drewN ?_ _) | (with_reducible refine Kd.C_drew ?_))); (case side2 => exact HC0_2.out); (case side3 => repeat (first | exact (Kd.C_below HR0_3.out HB.out) | (with_reducible refine Kd.C_alloc ?_ _) | (with_reducible refine Kd.C_drewN ?_ _) | (with_reducible refine Kd.C_drew ?_))); (case side4 => exact HC0_3.out); rintro e w14 ⟨vz8, vz11, rfl, ho0, ho1, hb⟩; refine ⟨_, rfl, ?_⟩; have n0_ := am (Kd.R_lower ho0 (below_size (sC_ HB))); have n1_ := am (Kd.R_lower ho1 (below_size (sC_ HB))); have n2_ := am (bkB (pk BKz1) hb); have n3_ := am (bkB (pk BKz2) hb); have n4_ := am (bkB (pk BKz3) hb); have n5_ := am (bkB (g := gbz4) (o := .cells #[.string (⟨#[]⟩ : ByteArray), .int .i64 0, .slice none 0 0, .slice none 0 0, .bool false] 50 (0, 0)) (pk BKz4) hb); have n6_ := am (below_step (sC_ HB) hb); clear BKz1; clear BKz2; clear BKz3; clear BKz4; clear HB; have HOz9 := n0_; have HOz12 := n1_; have BKz1 := n2_; have BKz2 := n3_; have BKz3 := n4_; have BKz4 := n5_; have HB := n6_; clear n0_ n1_ n2_ n3_ n4_ n5_ n6_; (try clear ho1)) | ((with_reducible refine gate_dst (N := 9) rfl ?_); (try (refine gate_guard (by rfl) ?_; dsimp only)); refine box_event ?hg (N := 9) ?hd (cs := #[.string (⟨#[]⟩ : ByteArray), .int .i64 0, .slice none 0 0, .slice none 0 0, .bool false]) (t := 50) ?hr ?_; (case hd => rfl); (case hg => rfl); (case hr => first | (go_simp; done) | (go_simp; rfl)); intro gbz14 hg w15 hbox hb; have n0_ := am (Kd.R_below (pr HOz9) hb); have n1_ := am (Kd.R_below (pr HOz12) hb); have n2_ := am (bkB (pk BKz1) hb); have n3_ := am (bkB (pk BKz2) hb); have n4_ := am (bkB (pk BKz3) hb); have n5_ := am (bkB (g := gbz4) (o := .cells #[.string (⟨#[]⟩ : ByteArray), .int .i64 0, .slice none 0 0, .slice none 0 0, .bool false] 50 (0, 0)) (pk BKz4) hb); have n6_ := am (below_step (sC_ HB) hb); have n7_ := am (hbox); have n8_ := ge_ hg (sC_ HB); have n9_ := ge_ hg (sC_ HB); have n10_ := nl_ hg BKz1; have n11_ := ng_ hg BKz1; have n12_ := nl_ hg BKz2; have n13_ := ng_ hg BKz2; have n14_ := nl_ hg BKz3; have n15_ := ng_ hg BKz3; have n16_ := am ((by rw [hg]; exact Nat.ne_of_lt (blk_lt (g := gbz4) (o := .cells #[.string (⟨#[]⟩ : ByteArray), .int .i64 0, .slice none 0 0, .slice none 0 0, .bool false] 50 (0, 0)) (pk BKz4)) : gbz4 ≠ gbz14)); have n17_ := am ((by rw [hg]; exact Nat.ne_of_gt (blk_lt (g := gbz4) (o := .cells #[.string (⟨#[]⟩ : ByteArray), .int .i64 0, .slice none 0 0, .slice none 0 0, .bool false] 50 (0, 0)) (pk BKz4)) : gbz14 ≠ gbz4)); clear HOz9; clear HOz12; clear BKz1; clear BKz2; clear BKz3; clear BKz4; clear HB; have HOz9 := n0_; have HOz12 := n1_; have BKz1 := n2_; have BKz2 := n3_; have BKz3 := n4_; have BKz4 := n5_; have HB := n6_; have BKz14 := n7_; have GWz14 := n8_; have GEz14 := n9_; have NBz1_z14 := n10_; have NBz14_z1 := n11_; have NBz2_z14 := n12_; have NBz14_z2 := n13_; have NBz3_z14 := n14_; have NBz14_z3 := n15_; have NBz4_z14 := n16_; have NBz14_z4 := n17_; clear n0_ n1_ n2_ n3_ n4_ n5_ n6_ n7_ n8_ n9_ n10_ n11_ n12_ n13_ n14_ n15_ n16_ n17_; clear hb hbox hg; have hnb16 := NBz14_z1.out; have hnc16 := NBz1_z14.out; have hnb17 := NBz14_z2.out; have hnc17 := NBz2_z14.out; have hnb18 := NBz14_z3.out; have hnc18 := NBz3_z14.out; have hnb19 := NBz14_z4.out; have hnc19 := NBz4_z14.out; obtain ⟨hcz20_0, hcz20_1, hcz20_2, hcz20_3, hcz20_4⟩ := bc5 BKz14; obtain ⟨hfz20_0, hfz20_1, hfz20_2, hfz20_3, hfz20_4⟩ := bf5 BKz14; obtain ⟨Ao21, co21, eo21⟩ := Kd.R_slice HOz9.out; subst eo21; obtain ⟨Ao22, co22, eo22⟩ := Kd.R_slice HOz12.out; subst eo22))
 (try simp only [Act.put, List.setIfInBounds_toArray, List.set_cons_zero, List.set_cons_succ])
 go_cut [29] (fun v29 wc => ∃ (kq : Nat) (x29_4 : Bool), v29 = .bool x29_4 ∧ Aside0 (ideal_Seal.j0 kq x29_4 a0_0 a0_1 l0_2 l0_3 a0_4 a1 a2 tz5 tz6 tz7 tz10 tz13 = some (r1, r2, r3, r4, r5, r6, r7)) ∧ Aside0 (kq ≤ k) ∧ Aside0 (Kd.R k72 72 wc w.heap.size (fun _ => True) (.slice Ao21 tz7.length co21) tz7) ∧ Aside0 (Kd.R k74 74 wc w.heap.size (fun _ => True) (.slice Ao22 tz10.length co22) tz10) ∧ Aside0 (wc.heap[gbz1]? = some (.cells #[.string a0_0, .int .i64 a0_1, (.slice A0_2 l0_2.length c0_2), (.slice A0_3 l0_3.length c0_3), .bool a0_4] 50 (0, 0))) ∧ Aside0 (wc.heap[gbz2]? = some (.cells #[.string a1] 9 (0, 0))) ∧ Aside0 (wc.heap[gbz3]? = some (.cells #[.string a2] 9 (0, 0))) ∧ Aside0 (wc.heap[gbz4]? = some (.cells #[.string (⟨#[]⟩ : ByteArray), .int .i64 0, (.slice none 0 0), (.slice none 0 0), .bool false] 50 (0, 0))) ∧ Aside0 (wc.heap[gbz14]? = some (.cells #[.string tz5, .int .i64 tz6, (.slice Ao21 tz7.length co21), (.slice Ao22 tz10.length co22), .bool tz13] 50 (0, 0))) ∧ Aside0 (Below w.heap.size w wc))
 case first =>
  have H := HC5.out
  clear HC5
  replace H := ob_ H
  obtain ⟨tz15, A230, H⟩ := H
  replace H : (if tz15 = true then (if (a1.size : Int) = 16 then (ideal_Seal.j0 k ((a2.size : Int) != 24) a0_0 a0_1 l0_2 l0_3 a0_4 a1 a2 tz5 tz6 tz7 tz10 tz13) else (ideal_Seal.j0 k true a0_0 a0_1 l0_2 l0_3 a0_4 a1 a2 tz5 tz6 tz7 tz10 tz13)) else (ideal_Seal.j0 k true a0_0 a0_1 l0_2 l0_3 a0_4 a1 a2 tz5 tz6 tz7 tz10 tz13)) = some (r1, r2, r3, r4, r5, r6, r7) := H
  have A23 := Aside0.mk A230
  clear A230
  by_cases c24 : tz15 = true
  rotate_left
  ·replace c24 := Bool.eq_false_iff.mpr c24
   subst c24
   have H1 : (ideal_Seal.j0 k true a0_0 a0_1 l0_2 l0_3 a0_4 a1 a2 tz5 tz6 tz7 tz10 tz13) = some (r1, r2, r3, r4, r5, r6, r7) := by rw [if_neg (show ¬ (false = true) by decide)] at H; exact H
   clear H
   have H := H1
   clear H1
   have H' := am H
   clear H
   have hnb49 := NBz1_z2.out
   have hnc49 := NBz2_z1.out
   have hnb50 := NBz1_z3.out
   have hnc50 := NBz3_z1.out
   have hnb51 := NBz1_z4.out
   have hnc51 := NBz4_z1.out
   have hnb52 := NBz1_z14.out
   have hnc52 := NBz14_z1.out
   obtain ⟨hcz53_0, hcz53_1, hcz53_2, hcz53_3, hcz53_4⟩ := bc5 BKz1
   obtain ⟨hfz53_0, hfz53_1, hfz53_2, hfz53_3, hfz53_4⟩ := bf5 BKz1
   go_wp2_with (first | ((with_reducible refine gate_callee (f := 37) rfl ?_); refine goesL_ (some 18) rfl rfl Try.func37 (by kernel_rfl) rfl #[.agg #[.string a0_0, .int .i64 a0_1, .slice A0_2 l0_2.length c0_2, .slice A0_3 l0_3.length c0_3, .bool a0_4]] rfl (by (try simp only [List.map_toArray, List.map_cons, List.map_nil]) <;> rfl) ?_; (with_reducible refine (ideal_Right.calls a0_0 a0_1 _ _ l0_2 _ _ l0_3 a0_4 false _ ?side1 ?side2 ?side3 ?side4 A23.out).mono ?_); (case side1 => exact Kd.C_below HR0_2.out (sC_ HB)); (case side2 => exact HC0_2.out); (case side3 => exact Kd.C_below HR0_3.out (sC_ HB)); (case side4 => exact HC0_3.out); rintro e w54 ⟨rfl, hb⟩; refine ⟨_, rfl, ?_⟩; have n0_ := am (Kd.R_below (by (with_reducible repeat first | apply ra | apply rn | apply rd); exact (rs5 HOz9 BKz14 (by decide))) hb); have n1_ := am (Kd.R_below (by (with_reducible repeat first | apply ra | apply rn | apply rd); exact (rs5 HOz12 BKz14 (by decide))) hb); have n2_ := am (bkB (g := gbz1) (o := .cells #[.string a0_0, .int .i64 a0_1, .slice A0_2 l0_2.length c0_2, .slice A0_3 l0_3.length c0_3, .bool a0_4] 50 (0, 0)) (by (with_reducible repeat (first | refine blk_drewN ?_ _ | refine bkD ?_ | refine bkA ?_ _)); refine br5 ?_ NBz1_z14; exact pk BKz1) hb); have n3_ := am (bkB (g := gbz2) (o := .cells #[.string a1] 9 (0, 0)) (by (with_reducible repeat (first | refine blk_drewN ?_ _ | refine bkD ?_ | refine bkA ?_ _)); refine br5 ?_ NBz2_z14; exact pk BKz2) hb); have n4_ := am (bkB (g := gbz3) (o := .cells #[.string a2] 9 (0, 0)) (by (with_reducible repeat (first | refine blk_drewN ?_ _ | refine bkD ?_ | refine bkA ?_ _)); refine br5 ?_ NBz3_z14; exact pk BKz3) hb); have n5_ := am (bkB (g := gbz4) (o := .cells #[.string (⟨#[]⟩ : ByteArray), .int .i64 0, .slice none 0 0, .slice none 0 0, .bool false] 50 (0, 0)) (by (with_reducible repeat (first | refine blk_drewN ?_ _ | refine bkD ?_ | refine bkA ?_ _)); refine br5 ?_ NBz4_z14; exact pk BKz4) hb); have n6_ := am (bkB (g := gbz14) (o := .cells #[.string tz5, .int .i64 tz6, .slice Ao21 tz7.length co21, .slice Ao22 tz10.length co22, .bool tz13] 50 (0, 0)) (by (with_reducible repeat (first | refine blk_drewN ?_ _ | refine bkD ?_ | refine bkA ?_ _)); apply bp5; exact pk BKz14) hb); have n7_ := am (below_step (sC_ HB) hb); clear HOz9; clear HOz12; clear BKz1; clear BKz2; clear BKz3; clear BKz4; clear BKz14; clear HB; have HOz9 := n0_; have HOz12 := n1_; have BKz1 := n2_; have BKz2 := n3_; have BKz3 := n4_; have BKz4 := n5_; have BKz14 := n6_; have HB := n7_; clear n0_ n1_ n2_ n3_ n4_ n5_ n6_ n7_; (try clear hi)))
   go_meet
   case rel => exact ⟨_, (true), (by first | rfl | (simp; done) | (simp [*]; done)), H', ⟨by first | omega | exact Nat.le_refl _⟩, (sr_ HOz9), (sr_ HOz12), (sk_ BKz1), (sk_ BKz2), (sk_ BKz3), (sk_ BKz4), (sk_ BKz14), (sB_ HB)⟩
  subst c24
  have H1 : (if (a1.size : Int) = 16 then (ideal_Seal.j0 k ((a2.size : Int) != 24) a0_0 a0_1 l0_2 l0_3 a0_4 a1 a2 tz5 tz6 tz7 tz10 tz13) else (ideal_Seal.j0 k true a0_0 a0_1 l0_2 l0_3 a0_4 a1 a2 tz5 tz6 tz7 tz10 tz13)) = some (r1, r2, r3, r4, r5, r6, r7) := by rw [if_pos rfl] at H; exact H
  clear H
  have H := H1
  clear H1
  by_cases c25 : (a1.size : Int) = 16
  rotate_left
  ·rw [if_neg c25] at H
   have c25b0 : ((a1.size : Int) == 16) = false := beq_eq_false_iff_ne.mpr c25
   have c25b1 : ((a1.size : Int) != 16) = true := bne_iff_ne.mpr c25
   (first | rw [c25b0] | rw [c25b1] | (simp only [i64_w, i32_w]; rw [c25b0]) | skip)
   have H' := am H
   clear H
   have hnb39 := NBz1_z2.out
   have hnc39 := NBz2_z1.out
   have hnb40 := NBz1_z3.out
   have hnc40 := NBz3_z1.out
   have hnb41 := NBz1_z4.out
   have hnc41 := NBz4_z1.out
   have hnb42 := NBz1_z14.out
   have hnc42 := NBz14_z1.out
   obtain ⟨hcz43_0, hcz43_1, hcz43_2, hcz43_3, hcz43_4⟩ := bc5 BKz1
   obtain ⟨hfz43_0, hfz43_1, hfz43_2, hfz43_3, hfz43_4⟩ := bf5 BKz1
   go_wp2_with (first | ((with_reducible refine gate_callee (f := 37) rfl ?_); refine goesL_ (some 18) rfl rfl Try.func37 (by kernel_rfl) rfl #[.agg #[.string a0_0, .int .i64 a0_1, .slice A0_2 l0_2.length c0_2, .slice A0_3 l0_3.length c0_3, .bool a0_4]] rfl (by (try simp only [List.map_toArray, List.map_cons, List.map_nil]) <;> rfl) ?_; (with_reducible refine (ideal_Right.calls a0_0 a0_1 _ _ l0_2 _ _ l0_3 a0_4 true _ ?side1 ?side2 ?side3 ?side4 A23.out).mono ?_); (case side1 => exact Kd.C_below HR0_2.out (sC_ HB)); (case side2 => exact HC0_2.out); (case side3 => exact Kd.C_below HR0_3.out (sC_ HB)); (case side4 => exact HC0_3.out); rintro e w44 ⟨rfl, hb⟩; refine ⟨_, rfl, ?_⟩; have n0_ := am (Kd.R_below (by (with_reducible repeat first | apply ra | apply rn | apply rd); exact (rs5 HOz9 BKz14 (by decide))) hb); have n1_ := am (Kd.R_below (by (with_reducible repeat first | apply ra | apply rn | apply rd); exact (rs5 HOz12 BKz14 (by decide))) hb); have n2_ := am (bkB (g := gbz1) (o := .cells #[.string a0_0, .int .i64 a0_1, .slice A0_2 l0_2.length c0_2, .slice A0_3 l0_3.length c0_3, .bool a0_4] 50 (0, 0)) (by (with_reducible repeat (first | refine blk_drewN ?_ _ | refine bkD ?_ | refine bkA ?_ _)); refine br5 ?_ NBz1_z14; exact pk BKz1) hb); have n3_ := am (bkB (g := gbz2) (o := .cells #[.string a1] 9 (0, 0)) (by (with_reducible repeat (first | refine blk_drewN ?_ _ | refine bkD ?_ | refine bkA ?_ _)); refine br5 ?_ NBz2_z14; exact pk BKz2) hb); have n4_ := am (bkB (g := gbz3) (o := .cells #[.string a2] 9 (0, 0)) (by (with_reducible repeat (first | refine blk_drewN ?_ _ | refine bkD ?_ | refine bkA ?_ _)); refine br5 ?_ NBz3_z14; exact pk BKz3) hb); have n5_ := am (bkB (g := gbz4) (o := .cells #[.string (⟨#[]⟩ : ByteArray), .int .i64 0, .slice none 0 0, .slice none 0 0, .bool false] 50 (0, 0)) (by (with_reducible repeat (first | refine blk_drewN ?_ _ | refine bkD ?_ | refine bkA ?_ _)); refine br5 ?_ NBz4_z14; exact pk BKz4) hb); have n6_ := am (bkB (g := gbz14) (o := .cells #[.string tz5, .int .i64 tz6, .slice Ao21 tz7.length co21, .slice Ao22 tz10.length co22, .bool tz13] 50 (0, 0)) (by (with_reducible repeat (first | refine blk_drewN ?_ _ | refine bkD ?_ | refine bkA ?_ _)); apply bp5; exact pk BKz14) hb); have n7_ := am (below_step (sC_ HB) hb); clear HOz9; clear HOz12; clear BKz1; clear BKz2; clear BKz3; clear BKz4; clear BKz14; clear HB; have HOz9 := n0_; have HOz12 := n1_; have BKz1 := n2_; have BKz2 := n3_; have BKz3 := n4_; have BKz4 := n5_; have BKz14 := n6_; have HB := n7_; clear n0_ n1_ n2_ n3_ n4_ n5_ n6_ n7_; have hnb45 := NBz2_z3.out; have hnc45 := NBz3_z2.out; have hnb46 := NBz2_z4.out; have hnc46 := NBz4_z2.out; have hnb47 := NBz2_z14.out; have hnc47 := NBz14_z2.out; have hcz48_0 : w44.cell? ⟨gbz2, 0, none⟩ = some (.string a1) := (blk_cell BKz2.out 0).trans rfl; have hfz48_0 := blk_frozen BKz2.out 0))
   go_meet
   case rel => exact ⟨_, (true), (by first | rfl | (simp; done) | (simp [*]; done)), H', ⟨by first | omega | exact Nat.le_refl _⟩, (sr_ HOz9), (sr_ HOz12), (sk_ BKz1), (sk_ BKz2), (sk_ BKz3), (sk_ BKz4), (sk_ BKz14), (sB_ HB)⟩
  rw [if_pos c25] at H
  have c25b0 : ((a1.size : Int) == 16) = true := beq_iff_eq.mpr c25
  have c25b1 : ((a1.size : Int) != 16) = false := bne_eq_false_iff_eq.mpr c25
  clear c25
  (first | rw [c25b0] | rw [c25b1] | (simp only [i64_w, i32_w]; rw [c25b0]) | skip)
  have H' := am H
  clear H
  have hnb26 := NBz1_z2.out
  have hnc26 := NBz2_z1.out
  have hnb27 := NBz1_z3.out
  have hnc27 := NBz3_z1.out
  have hnb28 := NBz1_z4.out
  have hnc28 := NBz4_z1.out
  have hnb29 := NBz1_z14.out
  have hnc29 := NBz14_z1.out
  obtain ⟨hcz30_0, hcz30_1, hcz30_2, hcz30_3, hcz30_4⟩ := bc5 BKz1
  obtain ⟨hfz30_0, hfz30_1, hfz30_2, hfz30_3, hfz30_4⟩ := bf5 BKz1
  go_wp2_with (first | ((with_reducible refine gate_callee (f := 37) rfl ?_); refine goesL_ (some 18) rfl rfl Try.func37 (by kernel_rfl) rfl #[.agg #[.string a0_0, .int .i64 a0_1, .slice A0_2 l0_2.length c0_2, .slice A0_3 l0_3.length c0_3, .bool a0_4]] rfl (by (try simp only [List.map_toArray, List.map_cons, List.map_nil]) <;> rfl) ?_; (with_reducible refine (ideal_Right.calls a0_0 a0_1 _ _ l0_2 _ _ l0_3 a0_4 true _ ?side1 ?side2 ?side3 ?side4 A23.out).mono ?_); (case side1 => exact Kd.C_below HR0_2.out (sC_ HB)); (case side2 => exact HC0_2.out); (case side3 => exact Kd.C_below HR0_3.out (sC_ HB)); (case side4 => exact HC0_3.out); rintro e w31 ⟨rfl, hb⟩; refine ⟨_, rfl, ?_⟩; have n0_ := am (Kd.R_below (by (with_reducible repeat first | apply ra | apply rn | apply rd); exact (rs5 HOz9 BKz14 (by decide))) hb); have n1_ := am (Kd.R_below (by (with_reducible repeat first | apply ra | apply rn | apply rd); exact (rs5 HOz12 BKz14 (by decide))) hb); have n2_ := am (bkB (g := gbz1) (o := .cells #[.string a0_0, .int .i64 a0_1, .slice A0_2 l0_2.length c0_2, .slice A0_3 l0_3.length c0_3, .bool a0_4] 50 (0, 0)) (by (with_reducible repeat (first | refine blk_drewN ?_ _ | refine bkD ?_ | refine bkA ?_ _)); refine br5 ?_ NBz1_z14; exact pk BKz1) hb); have n3_ := am (bkB (g := gbz2) (o := .cells #[.string a1] 9 (0, 0)) (by (with_reducible repeat (first | refine blk_drewN ?_ _ | refine bkD ?_ | refine bkA ?_ _)); refine br5 ?_ NBz2_z14; exact pk BKz2) hb); have n4_ := am (bkB (g := gbz3) (o := .cells #[.string a2] 9 (0, 0)) (by (with_reducible repeat (first | refine blk_drewN ?_ _ | refine bkD ?_ | refine bkA ?_ _)); refine br5 ?_ NBz3_z14; exact pk BKz3) hb); have n5_ := am (bkB (g := gbz4) (o := .cells #[.string (⟨#[]⟩ : ByteArray), .int .i64 0, .slice none 0 0, .slice none 0 0, .bool false] 50 (0, 0)) (by (with_reducible repeat (first | refine blk_drewN ?_ _ | refine bkD ?_ | refine bkA ?_ _)); refine br5 ?_ NBz4_z14; exact pk BKz4) hb); have n6_ := am (bkB (g := gbz14) (o := .cells #[.string tz5, .int .i64 tz6, .slice Ao21 tz7.length co21, .slice Ao22 tz10.length co22, .bool tz13] 50 (0, 0)) (by (with_reducible repeat (first | refine blk_drewN ?_ _ | refine bkD ?_ | refine bkA ?_ _)); apply bp5; exact pk BKz14) hb); have n7_ := am (below_step (sC_ HB) hb); clear HOz9; clear HOz12; clear BKz1; clear BKz2; clear BKz3; clear BKz4; clear BKz14; clear HB; have HOz9 := n0_; have HOz12 := n1_; have BKz1 := n2_; have BKz2 := n3_; have BKz3 := n4_; have BKz4 := n5_; have BKz14 := n6_; have HB := n7_; clear n0_ n1_ n2_ n3_ n4_ n5_ n6_ n7_; have hnb32 := NBz2_z3.out; have hnc32 := NBz3_z2.out; have hnb33 := NBz2_z4.out; have hnc33 := NBz4_z2.out; have hnb34 := NBz2_z14.out; have hnc34 := NBz14_z2.out; have hcz35_0 : w31.cell? ⟨gbz2, 0, none⟩ = some (.string a1) := (blk_cell BKz2.out 0).trans rfl; have hfz35_0 := blk_frozen BKz2.out 0; have hnb36 := NBz3_z4.out; have hnc36 := NBz4_z3.out; have hnb37 := NBz3_z14.out; have hnc37 := NBz14_z3.out; have hcz38_0 : w31.cell? ⟨gbz3, 0, none⟩ = some (.string a2) := (blk_cell BKz3.out 0).trans rfl; have hfz38_0 := blk_frozen BKz3.out 0))
  go_meet
  case rel => exact ⟨_, (((a2.size : Int) != 24)), (by first | rfl | (simp; done) | (simp [*]; done)), H', ⟨by first | omega | exact Nat.le_refl _⟩, (sr_ HOz9), (sr_ HOz12), (sk_ BKz1), (sk_ BKz2), (sk_ BKz3), (sk_ BKz4), (sk_ BKz14), (sB_ HB)⟩
 clear HC5
 try clear c1
 try clear c2
 try clear p2
 try clear c3
 try clear c4
 try clear c5
 try clear c10
 try clear c11
 try clear c12
 try clear c16
 try clear c17
 try clear c18
 try clear c19
 try clear c24
 try clear c25
 try clear c25b0
 try clear c25b1
 try clear c26
 try clear c27
 try clear c28
 try clear c29
 try clear c32
 try clear c33
 try clear c34
 try clear c36
 try clear c37
 try clear c39
 try clear c40
 try clear c41
 try clear c42
 try clear c45
 try clear c46
 try clear c47
 try clear c49
 try clear c50
 try clear c51
 try clear c52
 try clear hcz13_0
 try clear hcz13_1
 try clear hcz13_2
 try clear hcz13_3
 try clear hcz13_4
 try clear hcz20_0
 try clear hcz20_1
 try clear hcz20_2
 try clear hcz20_3
 try clear hcz20_4
 try clear hcz30_0
 try clear hcz30_1
 try clear hcz30_2
 try clear hcz30_3
 try clear hcz30_4
 try clear hcz35_0
 try clear hcz38_0
 try clear hcz43_0
 try clear hcz43_1
 try clear hcz43_2
 try clear hcz43_3
 try clear hcz43_4
 try clear hcz48_0
 try clear hcz53_0
 try clear hcz53_1
 try clear hcz53_2
 try clear hcz53_3
 try clear hcz53_4
 try clear hfz13_0
 try clear hfz13_1
 try clear hfz13_2
 try clear hfz13_3
 try clear hfz13_4
 try clear hfz20_0
 try clear hfz20_1
 try clear hfz20_2
 try clear hfz20_3
 try clear hfz20_4
 try clear hfz30_0
 try clear hfz30_1
 try clear hfz30_2
 try clear hfz30_3
 try clear hfz30_4
 try clear hfz35_0
 try clear hfz38_0
 try clear hfz43_0
 try clear hfz43_1
 try clear hfz43_2
 try clear hfz43_3
 try clear hfz43_4
 try clear hfz48_0
 try clear hfz53_0
 try clear hfz53_1
 try clear hfz53_2
 try clear hfz53_3
 try clear hfz53_4
 obtain ⟨kq, x29_4, rfl, HA, HJ4, HO_z15002, HO_z15003, BKz1, BKz2, BKz3, BKz4, BKz14, HB⟩ := hcut
 cases kq with
 | zero => exact absurd HA.out (by simp [ideal_Seal.j0])
 | succ kj4 => ?_
 have H := HA.out
 clear HA
 simp only [ideal_Seal.j0] at H
 by_cases c55 : x29_4 = true
 ·subst c55
  have H1 : (some ((⟨#[]⟩ : ByteArray), tz5, tz6, tz7, tz10, tz13, 1)) = some (r1, r2, r3, r4, r5, r6, r7) := by rw [if_pos rfl] at H; exact H
  clear H
  have H := H1
  clear H1
  simp only [Option.some.injEq, Prod.mk.injEq] at H
  obtain ⟨rfl, rfl, rfl, rfl, rfl, rfl, rfl⟩ := H
  try go_wp2
  have n0_ := am (Kd.R_drew HO_z15002.out)
  have n1_ := am (Kd.R_drew HO_z15003.out)
  have n2_ := am (bkD BKz1.out)
  have n3_ := am (bkD BKz2.out)
  have n4_ := am (bkD BKz3.out)
  have n5_ := am (bkD BKz4.out)
  have n6_ := am (bkD BKz14.out)
  have n7_ := am (below_drew1 HB.out)
  clear HO_z15002 HO_z15003 BKz1 BKz2 BKz3 BKz4 BKz14 HB; have HO_z15002 := n0_; have HO_z15003 := n1_; have BKz1 := n2_; have BKz2 := n3_; have BKz3 := n4_; have BKz4 := n5_; have BKz14 := n6_; have HB := n7_; clear n0_ n1_ n2_ n3_ n4_ n5_ n6_ n7_
  refine start_ (n := 4) (S := fun w' => w'.cell? ⟨gbz14, 0, none⟩ = some (.string tz5) ∧ w'.cell? ⟨gbz14, 1, none⟩ = some (.int .i64 tz6) ∧ w'.cell? ⟨gbz14, 2, none⟩ = some (.slice Ao21 tz7.length co21) ∧ w'.cell? ⟨gbz14, 3, none⟩ = some (.slice Ao22 tz10.length co22) ∧ w'.cell? ⟨gbz14, 4, none⟩ = some (.bool tz13)) (ds := []) #[false, false, false, false] (by kernel_rfl) rfl rfl (bc5 BKz14) (fun hHeld => ?_)
  generalize wc.drew = w56 at HO_z15002 HO_z15003 BKz1 BKz2 BKz3 BKz4 BKz14 HB hHeld ⊢
  refine pn_ 1 (some 6) rfl rfl (.inl ⟨by rfl, by intro w'; go_simp; with_reducible rfl⟩) (by simp only [Act.put, sa_, s0_, s1_, i64_w, i32_w]; rfl) ?_
  refine tn_ 0 (some 30) rfl rfl (.inl ⟨by rfl, by rintro w' ⟨s0, s1, s2, s3, s4⟩; go_simp; with_reducible rfl⟩) hHeld (by simp only [Act.put, sa_, s0_, s1_, i64_w, i32_w]; rfl) ?_
  refine one_ (i := 2) (N := none) #[true, true, true, false] rfl rfl (by kernel_rfl) (by decide) (fun K hK => ?_)
  have hs57 : w56.cell? ⟨gbz4, 0, none⟩ = some (.string (⟨#[]⟩ : ByteArray)) := (blk_cell BKz4.out 0).trans rfl
  have hfs57 := blk_frozen BKz4.out 0
  have := NBz1_z4.out
  have := NBz2_z4.out
  have := NBz3_z4.out
  have := NBz14_z4.out
  have := NBz4_z1.out
  have := NBz4_z2.out
  have := NBz4_z3.out
  have := NBz4_z14.out
  have hs58 : w56.cell? ⟨gbz4, 1, none⟩ = some (.int .i64 0) := (blk_cell BKz4.out 1).trans rfl
  have hfs58 := blk_frozen BKz4.out 1
  have := NBz1_z4.out
  have := NBz2_z4.out
  have := NBz3_z4.out
  have := NBz14_z4.out
  have := NBz4_z1.out
  have := NBz4_z2.out
  have := NBz4_z3.out
  have := NBz4_z14.out
  have hs59 : w56.cell? ⟨gbz4, 2, none⟩ = some (.slice none 0 0) := (blk_cell BKz4.out 2).trans rfl
  have hfs59 := blk_frozen BKz4.out 2
  have := NBz1_z4.out
  have := NBz2_z4.out
  have := NBz3_z4.out
  have := NBz14_z4.out
  have := NBz4_z1.out
  have := NBz4_z2.out
  have := NBz4_z3.out
  have := NBz4_z14.out
  have hs60 : w56.cell? ⟨gbz4, 3, none⟩ = some (.slice none 0 0) := (blk_cell BKz4.out 3).trans rfl
  have hfs60 := blk_frozen BKz4.out 3
  have := NBz1_z4.out
  have := NBz2_z4.out
  have := NBz3_z4.out
  have := NBz14_z4.out
  have := NBz4_z1.out
  have := NBz4_z2.out
  have := NBz4_z3.out
  have := NBz4_z14.out
  have hs61 : w56.cell? ⟨gbz4, 4, none⟩ = some (.bool false) := (blk_cell BKz4.out 4).trans rfl
  have hfs61 := blk_frozen BKz4.out 4
  have := NBz1_z4.out
  have := NBz2_z4.out
  have := NBz3_z4.out
  have := NBz14_z4.out
  have := NBz4_z1.out
  have := NBz4_z2.out
  have := NBz4_z3.out
  have := NBz4_z14.out
  refine skip_ (by rfl) rfl (by go_simp; rfl) ?_
  refine hK.out _ _ ⟨((cf5 NBz14_z4).trans (hHeld.1)), ((cf5 NBz14_z4).trans (hHeld.2.1)), ((cf5 NBz14_z4).trans (hHeld.2.2.1)), ((cf5 NBz14_z4).trans (hHeld.2.2.2.1)), ((cf5 NBz14_z4).trans (hHeld.2.2.2.2))⟩ (fun hHeld => ?_)
  clear hK K
  refine pn_ 3 (some 8) rfl rfl (.inl ⟨by rfl, by intro w'; go_simp; with_reducible rfl⟩) (by simp only [Act.put, sa_, s0_, s1_, i64_w, i32_w]; rfl) ?_
  refine done_ (by kernel_rfl) ?_
  try go_wp2
  refine bodyPost_ret (results_list (rs := [.tmp 6, .cell 7 50, .tmp 8]) rfl (by simp) (.tmp (.cell gbz4 50 #[.string tz5, .int .i64 tz6, .slice Ao21 tz7.length co21, .slice Ao22 tz10.length co22, .bool tz13] (0, 0) _ rfl (by (with_reducible repeat (first | refine blk_drewN ?_ _ | refine bkD ?_ | refine bkA ?_ _)); apply bp5; exact pk BKz4) Try.underlying50 rfl (by kernel_rfl) (.tmp .nil)))) rfl ?_
  exact ⟨_, _, by first | rfl | (simp <;> rfl) | (simp [*] <;> rfl), by (with_reducible repeat first | apply ra | apply rn | apply rd); exact Kd.R_mono (rf5 (Kd.R_types HO_z15002.out BKz4.out (by decide)) (fun _ hk => hk.2)) (fun _ hk => trivial), by (with_reducible repeat first | apply ra | apply rn | apply rd); exact Kd.R_mono (rf5 (Kd.R_types HO_z15003.out BKz4.out (by decide)) (fun _ hk => hk.2)) (fun _ hk => trivial), sC_ HB⟩
 replace c55 := Bool.eq_false_iff.mpr c55
 subst c55
 have H1 : ((ideal_find_66.f l0_3 a1 a2).bind fun btz16 => (if btz16.2.2.2 = true then (some (btz16.2.2.1, tz5, tz6, tz7, tz10, tz13, 0)) else (if (l0_3.length : Int) = 2000 then (some ((⟨#[]⟩ : ByteArray), tz5, tz6, tz7, tz10, tz13, 2)) else ((tape_Take.f kj4 a0_0 a0_1 40).bind fun btz21 => (if btz21.2.2.2 = 0 then ((ideal_own.f a0_0 a0_1 l0_2 l0_3 a0_4).bind fun btz26 => (if btz26.2.2.2.1.length < 2932031007402 then ((some (btz26.2.2.2.1 ++ [(⟨a1, a2, btz21.1⟩ : S74)] : List (S74))).bind fun yz35 => ((ideal_clash.f btz21.2.1 btz21.2.2.1 btz26.2.2.1 yz35 btz26.2.2.2.2).bind fun tz38 => (some (btz21.1, btz21.2.1, btz21.2.2.1, btz26.2.2.1, yz35, tz38, 0)))) else (none))) else (some ((⟨#[]⟩ : ByteArray), tz5, tz6, tz7, tz10, tz13, btz21.2.2.2))))))) = some (r1, r2, r3, r4, r5, r6, r7) := by rw [if_neg (show ¬ (false = true) by decide)] at H; exact H
 clear H
 have H := H1
 clear H1
 replace H := ob_ H
 obtain ⟨⟨tz16, tz17, tz18, tz19⟩, A620, H⟩ := H
 replace H : (if tz19 = true then (some (tz18, tz5, tz6, tz7, tz10, tz13, 0)) else (if (l0_3.length : Int) = 2000 then (some ((⟨#[]⟩ : ByteArray), tz5, tz6, tz7, tz10, tz13, 2)) else ((tape_Take.f kj4 a0_0 a0_1 40).bind fun btz21 => (if btz21.2.2.2 = 0 then ((ideal_own.f a0_0 a0_1 l0_2 l0_3 a0_4).bind fun btz26 => (if btz26.2.2.2.1.length < 2932031007402 then ((some (btz26.2.2.2.1 ++ [(⟨a1, a2, btz21.1⟩ : S74)] : List (S74))).bind fun yz35 => ((ideal_clash.f btz21.2.1 btz21.2.2.1 btz26.2.2.1 yz35 btz26.2.2.2.2).bind fun tz38 => (some (btz21.1, btz21.2.1, btz21.2.2.1, btz26.2.2.1, yz35, tz38, 0)))) else (none))) else (some ((⟨#[]⟩ : ByteArray), tz5, tz6, tz7, tz10, tz13, btz21.2.2.2)))))) = some (r1, r2, r3, r4, r5, r6, r7) := H
 have A62 := Aside0.mk A620
 clear A620
 by_cases c63 : tz19 = true
 ·subst c63
  have H1 : (some (tz18, tz5, tz6, tz7, tz10, tz13, 0)) = some (r1, r2, r3, r4, r5, r6, r7) := by rw [if_pos rfl] at H; exact H
  clear H
  have H := H1
  clear H1
  simp only [Option.some.injEq, Prod.mk.injEq] at H
  obtain ⟨rfl, rfl, rfl, rfl, rfl, rfl, rfl⟩ := H
  have hnb64 := NBz1_z2.out
  have hnc64 := NBz2_z1.out
  have hnb65 := NBz1_z3.out
  have hnc65 := NBz3_z1.out
  have hnb66 := NBz1_z4.out
  have hnc66 := NBz4_z1.out
  have hnb67 := NBz1_z14.out
  have hnc67 := NBz14_z1.out
  obtain ⟨hcz68_0, hcz68_1, hcz68_2, hcz68_3, hcz68_4⟩ := bc5 BKz1
  obtain ⟨hfz68_0, hfz68_1, hfz68_2, hfz68_3, hfz68_4⟩ := bf5 BKz1
  try go_wp2_with (first | ((with_reducible refine gate_callee (f := 65) rfl ?_); refine goesL_ (some 35) rfl rfl Try.func65 (by kernel_rfl) rfl #[.slice A0_3 l0_3.length c0_3, .func (.func 66) #[] #[.pointer (some ⟨gbz2, 0, none⟩), .pointer (some ⟨gbz3, 0, none⟩)]] rfl (by (try simp only [List.map_toArray, List.map_cons, List.map_nil]) <;> rfl) ?_; (with_reducible refine (ideal_find_66.calls _ _ l0_3 a1 a2 tz16 tz17 tz18 true _ ?side1 ?side2 ?side3 ?side4 A62.out).mono ?_); (case side1 => repeat (first | exact (Kd.C_below HR0_3.out HB.out) | (with_reducible refine Kd.C_alloc ?_ _) | (with_reducible refine Kd.C_drewN ?_ _) | (with_reducible refine Kd.C_drew ?_))); (case side2 => exact HC0_3.out); (case side3 => exact by (with_reducible repeat (first | refine blk_drewN ?_ _ | refine bkD ?_ | refine bkA ?_ _)); exact BKz2.out); (case side4 => exact by (with_reducible repeat (first | refine blk_drewN ?_ _ | refine bkD ?_ | refine bkA ?_ _)); exact BKz3.out); rintro e w69 ⟨rfl, hb⟩; refine ⟨_, rfl, ?_⟩; have n0_ := am (Kd.R_below (pr HO_z15002) hb); have n1_ := am (Kd.R_below (pr HO_z15003) hb); have n2_ := am (bkB (pk BKz1) hb); have n3_ := am (bkB (pk BKz2) hb); have n4_ := am (bkB (pk BKz3) hb); have n5_ := am (bkB (g := gbz4) (o := .cells #[.string (⟨#[]⟩ : ByteArray), .int .i64 0, .slice none 0 0, .slice none 0 0, .bool false] 50 (0, 0)) (pk BKz4) hb); have n6_ := am (bkB (pk BKz14) hb); have n7_ := am (below_step (sC_ HB) hb); clear HO_z15002; clear HO_z15003; clear BKz1; clear BKz2; clear BKz3; clear BKz4; clear BKz14; clear HB; have HO_z15002 := n0_; have HO_z15003 := n1_; have BKz1 := n2_; have BKz2 := n3_; have BKz3 := n4_; have BKz4 := n5_; have BKz14 := n6_; have HB := n7_; clear n0_ n1_ n2_ n3_ n4_ n5_ n6_ n7_; (try clear hi)) | ((with_reducible refine gate_dst (N := 10) rfl ?_); (try (refine gate_guard (by rfl) ?_; dsimp only)); refine box_event ?hg (N := 10) ?hd (cs := #[.string (⟨#[]⟩ : ByteArray), .string (⟨#[]⟩ : ByteArray), .string (⟨#[]⟩ : ByteArray)]) (t := 74) ?hr ?_; (case hd => rfl); (case hg => rfl); (case hr => first | (go_simp; done) | (go_simp; rfl)); intro gbz20 hg w70 hbox hb; have n0_ := am (Kd.R_below (pr HO_z15002) hb); have n1_ := am (Kd.R_below (Kd.R_elderB (pr HO_z15003) gbz20 (Nat.le_of_eq hg.symm)) hb); have n2_ := am (bkB (pk BKz1) hb); have n3_ := am (bkB (pk BKz2) hb); have n4_ := am (bkB (pk BKz3) hb); have n5_ := am (bkB (g := gbz4) (o := .cells #[.string (⟨#[]⟩ : ByteArray), .int .i64 0, .slice none 0 0, .slice none 0 0, .bool false] 50 (0, 0)) (pk BKz4) hb); have n6_ := am (bkB (pk BKz14) hb); have n7_ := am (below_step (sC_ HB) hb); have n8_ := am (hbox); have n9_ := ge_ hg (sC_ HB); have n10_ := ge_ hg (sC_ HB); have n11_ := nl_ hg BKz1; have n12_ := ng_ hg BKz1; have n13_ := nl_ hg BKz2; have n14_ := ng_ hg BKz2; have n15_ := nl_ hg BKz3; have n16_ := ng_ hg BKz3; have n17_ := am ((by rw [hg]; exact Nat.ne_of_lt (blk_lt (g := gbz4) (o := .cells #[.string (⟨#[]⟩ : ByteArray), .int .i64 0, .slice none 0 0, .slice none 0 0, .bool false] 50 (0, 0)) (pk BKz4)) : gbz4 ≠ gbz20)); have n18_ := am ((by rw [hg]; exact Nat.ne_of_gt (blk_lt (g := gbz4) (o := .cells #[.string (⟨#[]⟩ : ByteArray), .int .i64 0, .slice none 0 0, .slice none 0 0, .bool false] 50 (0, 0)) (pk BKz4)) : gbz20 ≠ gbz4)); have n19_ := nl_ hg BKz14; have n20_ := ng_ hg BKz14; clear HO_z15002; clear HO_z15003; clear BKz1; clear BKz2; clear BKz3; clear BKz4; clear BKz14; clear HB; have HO_z15002 := n0_; have HO_z15003 := n1_; have BKz1 := n2_; have BKz2 := n3_; have BKz3 := n4_; have BKz4 := n5_; have BKz14 := n6_; have HB := n7_; have BKz20 := n8_; have GWz20 := n9_; have GEz20 := n10_; have NBz1_z20 := n11_; have NBz20_z1 := n12_; have NBz2_z20 := n13_; have NBz20_z2 := n14_; have NBz3_z20 := n15_; have NBz20_z3 := n16_; have NBz4_z20 := n17_; have NBz20_z4 := n18_; have NBz14_z20 := n19_; have NBz20_z14 := n20_; clear n0_ n1_ n2_ n3_ n4_ n5_ n6_ n7_ n8_ n9_ n10_ n11_ n12_ n13_ n14_ n15_ n16_ n17_ n18_ n19_ n20_; clear hb hbox hg; have hnb71 := NBz20_z1.out; have hnc71 := NBz1_z20.out; have hnb72 := NBz20_z2.out; have hnc72 := NBz2_z20.out; have hnb73 := NBz20_z3.out; have hnc73 := NBz3_z20.out; have hnb74 := NBz20_z4.out; have hnc74 := NBz4_z20.out; have hnb75 := NBz20_z14.out; have hnc75 := NBz14_z20.out; obtain ⟨hcz76_0, hcz76_1, hcz76_2⟩ := bc3 BKz20; obtain ⟨hfz76_0, hfz76_1, hfz76_2⟩ := bf3 BKz20))
  have n0_ : Aside0 (Kd.R k72 72 (((w70.setCell ⟨gbz20, 0, none⟩ (.string tz16)).setCell ⟨gbz20, 1, none⟩ (.string tz17)).setCell ⟨gbz20, 2, none⟩ (.string tz18)) w.heap.size (fun _ => True) (.slice Ao21 tz7.length co21) tz7) := ⟨by (with_reducible repeat first | apply ra | apply rn | apply rd); exact Kd.R_mono (rf3 (Kd.R_types HO_z15002.out BKz20.out (by decide)) (fun _ hk => hk.2)) (fun _ hk => trivial)⟩
  have n1_ : Aside0 (Kd.R k74 74 (((w70.setCell ⟨gbz20, 0, none⟩ (.string tz16)).setCell ⟨gbz20, 1, none⟩ (.string tz17)).setCell ⟨gbz20, 2, none⟩ (.string tz18)) w.heap.size (fun k_ => k_ ≠ gbz20) (.slice Ao22 tz10.length co22) tz10) := ⟨by (with_reducible repeat first | apply ra | apply rn | apply rd); exact Kd.R_mono (rf3 (Kd.R_mono HO_z15003.out (fun k_ hk => (⟨hk, hk.2⟩ : _ ∧ k_ ≠ gbz20))) (fun _ hk => hk.2)) (fun _ hk => hk.1.2)⟩
  have n2_ : Aside0 ((((w70.setCell ⟨gbz20, 0, none⟩ (.string tz16)).setCell ⟨gbz20, 1, none⟩ (.string tz17)).setCell ⟨gbz20, 2, none⟩ (.string tz18)).heap[gbz1]? = some (.cells #[.string a0_0, .int .i64 a0_1, .slice A0_2 l0_2.length c0_2, .slice A0_3 l0_3.length c0_3, .bool a0_4] 50 (0, 0))) := ⟨by (with_reducible repeat (first | refine blk_drewN ?_ _ | refine bkD ?_ | refine bkA ?_ _)); refine blk_far ?_ NBz1_z20.out _; refine blk_far ?_ NBz1_z20.out _; refine blk_far ?_ NBz1_z20.out _; (with_reducible repeat (first | refine blk_drewN ?_ _ | refine bkD ?_ | refine bkA ?_ _)); exact BKz1.out⟩
  have n3_ : Aside0 ((((w70.setCell ⟨gbz20, 0, none⟩ (.string tz16)).setCell ⟨gbz20, 1, none⟩ (.string tz17)).setCell ⟨gbz20, 2, none⟩ (.string tz18)).heap[gbz2]? = some (.cells #[.string a1] 9 (0, 0))) := ⟨by (with_reducible repeat (first | refine blk_drewN ?_ _ | refine bkD ?_ | refine bkA ?_ _)); refine blk_far ?_ NBz2_z20.out _; refine blk_far ?_ NBz2_z20.out _; refine blk_far ?_ NBz2_z20.out _; (with_reducible repeat (first | refine blk_drewN ?_ _ | refine bkD ?_ | refine bkA ?_ _)); exact BKz2.out⟩
  have n4_ : Aside0 ((((w70.setCell ⟨gbz20, 0, none⟩ (.string tz16)).setCell ⟨gbz20, 1, none⟩ (.string tz17)).setCell ⟨gbz20, 2, none⟩ (.string tz18)).heap[gbz3]? = some (.cells #[.string a2] 9 (0, 0))) := ⟨by (with_reducible repeat (first | refine blk_drewN ?_ _ | refine bkD ?_ | refine bkA ?_ _)); refine blk_far ?_ NBz3_z20.out _; refine blk_far ?_ NBz3_z20.out _; refine blk_far ?_ NBz3_z20.out _; (with_reducible repeat (first | refine blk_drewN ?_ _ | refine bkD ?_ | refine bkA ?_ _)); exact BKz3.out⟩
  have n5_ : Aside0 ((((w70.setCell ⟨gbz20, 0, none⟩ (.string tz16)).setCell ⟨gbz20, 1, none⟩ (.string tz17)).setCell ⟨gbz20, 2, none⟩ (.string tz18)).heap[gbz4]? = some (.cells #[.string (⟨#[]⟩ : ByteArray), .int .i64 0, .slice none 0 0, .slice none 0 0, .bool false] 50 (0, 0))) := ⟨by (with_reducible repeat (first | refine blk_drewN ?_ _ | refine bkD ?_ | refine bkA ?_ _)); refine blk_far ?_ NBz4_z20.out _; refine blk_far ?_ NBz4_z20.out _; refine blk_far ?_ NBz4_z20.out _; (with_reducible repeat (first | refine blk_drewN ?_ _ | refine bkD ?_ | refine bkA ?_ _)); exact BKz4.out⟩
  have n6_ : Aside0 ((((w70.setCell ⟨gbz20, 0, none⟩ (.string tz16)).setCell ⟨gbz20, 1, none⟩ (.string tz17)).setCell ⟨gbz20, 2, none⟩ (.string tz18)).heap[gbz14]? = some (.cells #[.string tz5, .int .i64 tz6, .slice Ao21 tz7.length co21, .slice Ao22 tz10.length co22, .bool tz13] 50 (0, 0))) := ⟨by (with_reducible repeat (first | refine blk_drewN ?_ _ | refine bkD ?_ | refine bkA ?_ _)); refine blk_far ?_ NBz14_z20.out _; refine blk_far ?_ NBz14_z20.out _; refine blk_far ?_ NBz14_z20.out _; (with_reducible repeat (first | refine blk_drewN ?_ _ | refine bkD ?_ | refine bkA ?_ _)); exact BKz14.out⟩
  have n7_ : Aside0 ((((w70.setCell ⟨gbz20, 0, none⟩ (.string tz16)).setCell ⟨gbz20, 1, none⟩ (.string tz17)).setCell ⟨gbz20, 2, none⟩ (.string tz18)).heap[gbz20]? = some (.cells #[.string tz16, .string tz17, .string tz18] 74 (0, 0))) := ⟨by (with_reducible repeat (first | refine blk_drewN ?_ _ | refine bkD ?_ | refine bkA ?_ _)); apply bp3; (with_reducible repeat (first | refine blk_drewN ?_ _ | refine bkD ?_ | refine bkA ?_ _)); exact BKz20.out⟩
  have n8_ : Aside0 (Below w.heap.size w (((w70.setCell ⟨gbz20, 0, none⟩ (.string tz16)).setCell ⟨gbz20, 1, none⟩ (.string tz17)).setCell ⟨gbz20, 2, none⟩ (.string tz18))) := (sB_ HB)
  (try clear HO_z15002); (try clear HO_z15003); (try clear BKz1); (try clear BKz2); (try clear BKz3); (try clear BKz4); (try clear BKz14); (try clear BKz20); (try clear HB)
  generalize (((w70.setCell ⟨gbz20, 0, none⟩ (.string tz16)).setCell ⟨gbz20, 1, none⟩ (.string tz17)).setCell ⟨gbz20, 2, none⟩ (.string tz18)) = w77 at n0_ n1_ n2_ n3_ n4_ n5_ n6_ n7_ n8_ ⊢
  have HO_z15002 := n0_; have HO_z15003 := n1_; have BKz1 := n2_; have BKz2 := n3_; have BKz3 := n4_; have BKz4 := n5_; have BKz14 := n6_; have BKz20 := n7_; have HB := n8_; clear n0_ n1_ n2_ n3_ n4_ n5_ n6_ n7_ n8_
  have n0_ := am (Kd.R_drew HO_z15002.out)
  have n1_ := am (Kd.R_drew HO_z15003.out)
  have n2_ := am (bkD BKz1.out)
  have n3_ := am (bkD BKz2.out)
  have n4_ := am (bkD BKz3.out)
  have n5_ := am (bkD BKz4.out)
  have n6_ := am (bkD BKz14.out)
  have n7_ := am (bkD BKz20.out)
  have n8_ := am (below_drew1 HB.out)
  clear HO_z15002 HO_z15003 BKz1 BKz2 BKz3 BKz4 BKz14 BKz20 HB; have HO_z15002 := n0_; have HO_z15003 := n1_; have BKz1 := n2_; have BKz2 := n3_; have BKz3 := n4_; have BKz4 := n5_; have BKz14 := n6_; have BKz20 := n7_; have HB := n8_; clear n0_ n1_ n2_ n3_ n4_ n5_ n6_ n7_ n8_
  refine start_ (n := 6) (S := fun w' => w'.cell? ⟨gbz20, 0, none⟩ = some (.string tz16) ∧ w'.cell? ⟨gbz20, 1, none⟩ = some (.string tz17) ∧ w'.cell? ⟨gbz20, 2, none⟩ = some (.string tz18) ∧ w'.cell? ⟨gbz14, 0, none⟩ = some (.string tz5) ∧ w'.cell? ⟨gbz14, 1, none⟩ = some (.int .i64 tz6) ∧ w'.cell? ⟨gbz14, 2, none⟩ = some (.slice Ao21 tz7.length co21) ∧ w'.cell? ⟨gbz14, 3, none⟩ = some (.slice Ao22 tz10.length co22) ∧ w'.cell? ⟨gbz14, 4, none⟩ = some (.bool tz13)) (ds := []) #[false, false, false, false, false, false] (by kernel_rfl) rfl rfl ⟨(blk_cell BKz20.out 0).trans rfl, (blk_cell BKz20.out 1).trans rfl, (blk_cell BKz20.out 2).trans rfl, (blk_cell BKz14.out 0).trans rfl, (blk_cell BKz14.out 1).trans rfl, (blk_cell BKz14.out 2).trans rfl, (blk_cell BKz14.out 3).trans rfl, (blk_cell BKz14.out 4).trans rfl⟩ (fun hHeld => ?_)
  generalize w77.drew = w78 at HO_z15002 HO_z15003 BKz1 BKz2 BKz3 BKz4 BKz14 BKz20 HB hHeld ⊢
  refine pn_ 0 (some 39) rfl rfl (.inl ⟨by rfl, by intro w'; go_simp; with_reducible rfl⟩) (by simp only [Act.put, sa_, s0_, s1_, i64_w, i32_w]; rfl) ?_
  refine tn_ 1 (some 40) rfl rfl (.inl ⟨by rfl, by rintro w' ⟨s0, s1, s2, s3, s4, s5, s6, s7⟩; go_simp; with_reducible rfl⟩) hHeld (by simp only [Act.put, sa_, s0_, s1_, i64_w, i32_w]; rfl) ?_
  refine pn_ 3 (some 6) rfl rfl (.inl ⟨by rfl, by intro w'; go_simp; with_reducible rfl⟩) (by simp only [Act.put, sa_, s0_, s1_, i64_w, i32_w]; rfl) ?_
  refine tn_ 2 (some 41) rfl rfl (.inl ⟨by rfl, by rintro w' ⟨s0, s1, s2, s3, s4, s5, s6, s7⟩; go_simp; with_reducible rfl⟩) hHeld (by simp only [Act.put, sa_, s0_, s1_, i64_w, i32_w]; rfl) ?_
  refine one_ (i := 4) (N := none) #[true, true, true, true, true, false] rfl rfl (by kernel_rfl) (by decide) (fun K hK => ?_)
  have hs79 : w78.cell? ⟨gbz4, 0, none⟩ = some (.string (⟨#[]⟩ : ByteArray)) := (blk_cell BKz4.out 0).trans rfl
  have hfs79 := blk_frozen BKz4.out 0
  have := NBz1_z4.out
  have := NBz2_z4.out
  have := NBz3_z4.out
  have := NBz14_z4.out
  have := NBz20_z4.out
  have := NBz4_z1.out
  have := NBz4_z2.out
  have := NBz4_z3.out
  have := NBz4_z14.out
  have := NBz4_z20.out
  have hs80 : w78.cell? ⟨gbz4, 1, none⟩ = some (.int .i64 0) := (blk_cell BKz4.out 1).trans rfl
  have hfs80 := blk_frozen BKz4.out 1
  have := NBz1_z4.out
  have := NBz2_z4.out
  have := NBz3_z4.out
  have := NBz14_z4.out
  have := NBz20_z4.out
  have := NBz4_z1.out
  have := NBz4_z2.out
  have := NBz4_z3.out
  have := NBz4_z14.out
  have := NBz4_z20.out
  have hs81 : w78.cell? ⟨gbz4, 2, none⟩ = some (.slice none 0 0) := (blk_cell BKz4.out 2).trans rfl
  have hfs81 := blk_frozen BKz4.out 2
  have := NBz1_z4.out
  have := NBz2_z4.out
  have := NBz3_z4.out
  have := NBz14_z4.out
  have := NBz20_z4.out
  have := NBz4_z1.out
  have := NBz4_z2.out
  have := NBz4_z3.out
  have := NBz4_z14.out
  have := NBz4_z20.out
  have hs82 : w78.cell? ⟨gbz4, 3, none⟩ = some (.slice none 0 0) := (blk_cell BKz4.out 3).trans rfl
  have hfs82 := blk_frozen BKz4.out 3
  have := NBz1_z4.out
  have := NBz2_z4.out
  have := NBz3_z4.out
  have := NBz14_z4.out
  have := NBz20_z4.out
  have := NBz4_z1.out
  have := NBz4_z2.out
  have := NBz4_z3.out
  have := NBz4_z14.out
  have := NBz4_z20.out
  have hs83 : w78.cell? ⟨gbz4, 4, none⟩ = some (.bool false) := (blk_cell BKz4.out 4).trans rfl
  have hfs83 := blk_frozen BKz4.out 4
  have := NBz1_z4.out
  have := NBz2_z4.out
  have := NBz3_z4.out
  have := NBz14_z4.out
  have := NBz20_z4.out
  have := NBz4_z1.out
  have := NBz4_z2.out
  have := NBz4_z3.out
  have := NBz4_z14.out
  have := NBz4_z20.out
  refine skip_ (by rfl) rfl (by go_simp; rfl) ?_
  refine hK.out _ _ ⟨((cf5 NBz20_z4).trans (hHeld.1)), ((cf5 NBz20_z4).trans (hHeld.2.1)), ((cf5 NBz20_z4).trans (hHeld.2.2.1)), ((cf5 NBz14_z4).trans (hHeld.2.2.2.1)), ((cf5 NBz14_z4).trans (hHeld.2.2.2.2.1)), ((cf5 NBz14_z4).trans (hHeld.2.2.2.2.2.1)), ((cf5 NBz14_z4).trans (hHeld.2.2.2.2.2.2.1)), ((cf5 NBz14_z4).trans (hHeld.2.2.2.2.2.2.2))⟩ (fun hHeld => ?_)
  clear hK K
  refine pn_ 5 (some 8) rfl rfl (.inl ⟨by rfl, by intro w'; go_simp; with_reducible rfl⟩) (by simp only [Act.put, sa_, s0_, s1_, i64_w, i32_w]; rfl) ?_
  refine done_ (by kernel_rfl) ?_
  try go_wp2
  refine bodyPost_ret (results_list (rs := [.tmp 6, .cell 7 50, .tmp 8]) rfl (by simp) (.tmp (.cell gbz4 50 #[.string tz5, .int .i64 tz6, .slice Ao21 tz7.length co21, .slice Ao22 tz10.length co22, .bool tz13] (0, 0) _ rfl (by (with_reducible repeat (first | refine blk_drewN ?_ _ | refine bkD ?_ | refine bkA ?_ _)); apply bp5; exact pk BKz4) Try.underlying50 rfl (by kernel_rfl) (.tmp .nil)))) rfl ?_
  exact ⟨_, _, by first | rfl | (simp <;> rfl) | (simp [*] <;> rfl), by (with_reducible repeat first | apply ra | apply rn | apply rd); exact Kd.R_mono (rf5 (Kd.R_types HO_z15002.out BKz4.out (by decide)) (fun _ hk => hk.2)) (fun _ hk => trivial), by (with_reducible repeat first | apply ra | apply rn | apply rd); exact Kd.R_mono (rf5 (Kd.R_types HO_z15003.out BKz4.out (by decide)) (fun _ hk => hk.2)) (fun _ hk => trivial), sC_ HB⟩
 replace c63 := Bool.eq_false_iff.mpr c63
 subst c63
 have H1 : (if (l0_3.length : Int) = 2000 then (some ((⟨#[]⟩ : ByteArray), tz5, tz6, tz7, tz10, tz13, 2)) else ((tape_Take.f kj4 a0_0 a0_1 40).bind fun btz21 => (if btz21.2.2.2 = 0 then ((ideal_own.f a0_0 a0_1 l0_2 l0_3 a0_4).bind fun btz26 => (if btz26.2.2.2.1.length < 2932031007402 then ((some (btz26.2.2.2.1 ++ [(⟨a1, a2, btz21.1⟩ : S74)] : List (S74))).bind fun yz35 => ((ideal_clash.f btz21.2.1 btz21.2.2.1 btz26.2.2.1 yz35 btz26.2.2.2.2).bind fun tz38 => (some (btz21.1, btz21.2.1, btz21.2.2.1, btz26.2.2.1, yz35, tz38, 0)))) else (none))) else (some ((⟨#[]⟩ : ByteArray), tz5, tz6, tz7, tz10, tz13, btz21.2.2.2))))) = some (r1, r2, r3, r4, r5, r6, r7) := by rw [if_neg (show ¬ (false = true) by decide)] at H; exact H
 clear H
 have H := H1
 clear H1
 by_cases c84 : (l0_3.length : Int) = 2000
 ·rw [if_pos c84] at H
  have c84b0 : ((l0_3.length : Int) == 2000) = true := beq_iff_eq.mpr c84
  have c84b1 : ((l0_3.length : Int) != 2000) = false := bne_eq_false_iff_eq.mpr c84
  clear c84
  simp only [Option.some.injEq, Prod.mk.injEq] at H
  obtain ⟨rfl, rfl, rfl, rfl, rfl, rfl, rfl⟩ := H
  have hnb85 := NBz1_z2.out
  have hnc85 := NBz2_z1.out
  have hnb86 := NBz1_z3.out
  have hnc86 := NBz3_z1.out
  have hnb87 := NBz1_z4.out
  have hnc87 := NBz4_z1.out
  have hnb88 := NBz1_z14.out
  have hnc88 := NBz14_z1.out
  obtain ⟨hcz89_0, hcz89_1, hcz89_2, hcz89_3, hcz89_4⟩ := bc5 BKz1
  obtain ⟨hfz89_0, hfz89_1, hfz89_2, hfz89_3, hfz89_4⟩ := bf5 BKz1
  try go_wp2_with (first | ((with_reducible refine gate_callee (f := 65) rfl ?_); refine goesL_ (some 35) rfl rfl Try.func65 (by kernel_rfl) rfl #[.slice A0_3 l0_3.length c0_3, .func (.func 66) #[] #[.pointer (some ⟨gbz2, 0, none⟩), .pointer (some ⟨gbz3, 0, none⟩)]] rfl (by (try simp only [List.map_toArray, List.map_cons, List.map_nil]) <;> rfl) ?_; (with_reducible refine (ideal_find_66.calls _ _ l0_3 a1 a2 tz16 tz17 tz18 false _ ?side1 ?side2 ?side3 ?side4 A62.out).mono ?_); (case side1 => repeat (first | exact (Kd.C_below HR0_3.out HB.out) | (with_reducible refine Kd.C_alloc ?_ _) | (with_reducible refine Kd.C_drewN ?_ _) | (with_reducible refine Kd.C_drew ?_))); (case side2 => exact HC0_3.out); (case side3 => exact by (with_reducible repeat (first | refine blk_drewN ?_ _ | refine bkD ?_ | refine bkA ?_ _)); exact BKz2.out); (case side4 => exact by (with_reducible repeat (first | refine blk_drewN ?_ _ | refine bkD ?_ | refine bkA ?_ _)); exact BKz3.out); rintro e w90 ⟨rfl, hb⟩; refine ⟨_, rfl, ?_⟩; have n0_ := am (Kd.R_below (pr HO_z15002) hb); have n1_ := am (Kd.R_below (pr HO_z15003) hb); have n2_ := am (bkB (pk BKz1) hb); have n3_ := am (bkB (pk BKz2) hb); have n4_ := am (bkB (pk BKz3) hb); have n5_ := am (bkB (g := gbz4) (o := .cells #[.string (⟨#[]⟩ : ByteArray), .int .i64 0, .slice none 0 0, .slice none 0 0, .bool false] 50 (0, 0)) (pk BKz4) hb); have n6_ := am (bkB (pk BKz14) hb); have n7_ := am (below_step (sC_ HB) hb); clear HO_z15002; clear HO_z15003; clear BKz1; clear BKz2; clear BKz3; clear BKz4; clear BKz14; clear HB; have HO_z15002 := n0_; have HO_z15003 := n1_; have BKz1 := n2_; have BKz2 := n3_; have BKz3 := n4_; have BKz4 := n5_; have BKz14 := n6_; have HB := n7_; clear n0_ n1_ n2_ n3_ n4_ n5_ n6_ n7_; (try clear hi)) | ((with_reducible refine gate_dst (N := 10) rfl ?_); (try (refine gate_guard (by rfl) ?_; dsimp only)); refine box_event ?hg (N := 10) ?hd (cs := #[.string (⟨#[]⟩ : ByteArray), .string (⟨#[]⟩ : ByteArray), .string (⟨#[]⟩ : ByteArray)]) (t := 74) ?hr ?_; (case hd => rfl); (case hg => rfl); (case hr => first | (go_simp; done) | (go_simp; rfl)); intro gbz20 hg w91 hbox hb; have n0_ := am (Kd.R_below (pr HO_z15002) hb); have n1_ := am (Kd.R_below (Kd.R_elderB (pr HO_z15003) gbz20 (Nat.le_of_eq hg.symm)) hb); have n2_ := am (bkB (pk BKz1) hb); have n3_ := am (bkB (pk BKz2) hb); have n4_ := am (bkB (pk BKz3) hb); have n5_ := am (bkB (g := gbz4) (o := .cells #[.string (⟨#[]⟩ : ByteArray), .int .i64 0, .slice none 0 0, .slice none 0 0, .bool false] 50 (0, 0)) (pk BKz4) hb); have n6_ := am (bkB (pk BKz14) hb); have n7_ := am (below_step (sC_ HB) hb); have n8_ := am (hbox); have n9_ := ge_ hg (sC_ HB); have n10_ := ge_ hg (sC_ HB); have n11_ := nl_ hg BKz1; have n12_ := ng_ hg BKz1; have n13_ := nl_ hg BKz2; have n14_ := ng_ hg BKz2; have n15_ := nl_ hg BKz3; have n16_ := ng_ hg BKz3; have n17_ := am ((by rw [hg]; exact Nat.ne_of_lt (blk_lt (g := gbz4) (o := .cells #[.string (⟨#[]⟩ : ByteArray), .int .i64 0, .slice none 0 0, .slice none 0 0, .bool false] 50 (0, 0)) (pk BKz4)) : gbz4 ≠ gbz20)); have n18_ := am ((by rw [hg]; exact Nat.ne_of_gt (blk_lt (g := gbz4) (o := .cells #[.string (⟨#[]⟩ : ByteArray), .int .i64 0, .slice none 0 0, .slice none 0 0, .bool false] 50 (0, 0)) (pk BKz4)) : gbz20 ≠ gbz4)); have n19_ := nl_ hg BKz14; have n20_ := ng_ hg BKz14; clear HO_z15002; clear HO_z15003; clear BKz1; clear BKz2; clear BKz3; clear BKz4; clear BKz14; clear HB; have HO_z15002 := n0_; have HO_z15003 := n1_; have BKz1 := n2_; have BKz2 := n3_; have BKz3 := n4_; have BKz4 := n5_; have BKz14 := n6_; have HB := n7_; have BKz20 := n8_; have GWz20 := n9_; have GEz20 := n10_; have NBz1_z20 := n11_; have NBz20_z1 := n12_; have NBz2_z20 := n13_; have NBz20_z2 := n14_; have NBz3_z20 := n15_; have NBz20_z3 := n16_; have NBz4_z20 := n17_; have NBz20_z4 := n18_; have NBz14_z20 := n19_; have NBz20_z14 := n20_; clear n0_ n1_ n2_ n3_ n4_ n5_ n6_ n7_ n8_ n9_ n10_ n11_ n12_ n13_ n14_ n15_ n16_ n17_ n18_ n19_ n20_; clear hb hbox hg; have hnb92 := NBz20_z1.out; have hnc92 := NBz1_z20.out; have hnb93 := NBz20_z2.out; have hnc93 := NBz2_z20.out; have hnb94 := NBz20_z3.out; have hnc94 := NBz3_z20.out; have hnb95 := NBz20_z4.out; have hnc95 := NBz4_z20.out; have hnb96 := NBz20_z14.out; have hnc96 := NBz14_z20.out; obtain ⟨hcz97_0, hcz97_1, hcz97_2⟩ := bc3 BKz20; obtain ⟨hfz97_0, hfz97_1, hfz97_2⟩ := bf3 BKz20; obtain ⟨hcz98_0, hcz98_1, hcz98_2, hcz98_3, hcz98_4⟩ := bc5 BKz1; obtain ⟨hfz98_0, hfz98_1, hfz98_2, hfz98_3, hfz98_4⟩ := bf5 BKz1))
  have n0_ : Aside0 (Kd.R k72 72 (((w91.setCell ⟨gbz20, 0, none⟩ (.string tz16)).setCell ⟨gbz20, 1, none⟩ (.string tz17)).setCell ⟨gbz20, 2, none⟩ (.string tz18)) w.heap.size (fun _ => True) (.slice Ao21 tz7.length co21) tz7) := ⟨by (with_reducible repeat first | apply ra | apply rn | apply rd); exact Kd.R_mono (rf3 (Kd.R_types HO_z15002.out BKz20.out (by decide)) (fun _ hk => hk.2)) (fun _ hk => trivial)⟩
  have n1_ : Aside0 (Kd.R k74 74 (((w91.setCell ⟨gbz20, 0, none⟩ (.string tz16)).setCell ⟨gbz20, 1, none⟩ (.string tz17)).setCell ⟨gbz20, 2, none⟩ (.string tz18)) w.heap.size (fun k_ => k_ ≠ gbz20) (.slice Ao22 tz10.length co22) tz10) := ⟨by (with_reducible repeat first | apply ra | apply rn | apply rd); exact Kd.R_mono (rf3 (Kd.R_mono HO_z15003.out (fun k_ hk => (⟨hk, hk.2⟩ : _ ∧ k_ ≠ gbz20))) (fun _ hk => hk.2)) (fun _ hk => hk.1.2)⟩
  have n2_ : Aside0 ((((w91.setCell ⟨gbz20, 0, none⟩ (.string tz16)).setCell ⟨gbz20, 1, none⟩ (.string tz17)).setCell ⟨gbz20, 2, none⟩ (.string tz18)).heap[gbz1]? = some (.cells #[.string a0_0, .int .i64 a0_1, .slice A0_2 l0_2.length c0_2, .slice A0_3 l0_3.length c0_3, .bool a0_4] 50 (0, 0))) := ⟨by (with_reducible repeat (first | refine blk_drewN ?_ _ | refine bkD ?_ | refine bkA ?_ _)); refine blk_far ?_ NBz1_z20.out _; refine blk_far ?_ NBz1_z20.out _; refine blk_far ?_ NBz1_z20.out _; (with_reducible repeat (first | refine blk_drewN ?_ _ | refine bkD ?_ | refine bkA ?_ _)); exact BKz1.out⟩
  have n3_ : Aside0 ((((w91.setCell ⟨gbz20, 0, none⟩ (.string tz16)).setCell ⟨gbz20, 1, none⟩ (.string tz17)).setCell ⟨gbz20, 2, none⟩ (.string tz18)).heap[gbz2]? = some (.cells #[.string a1] 9 (0, 0))) := ⟨by (with_reducible repeat (first | refine blk_drewN ?_ _ | refine bkD ?_ | refine bkA ?_ _)); refine blk_far ?_ NBz2_z20.out _; refine blk_far ?_ NBz2_z20.out _; refine blk_far ?_ NBz2_z20.out _; (with_reducible repeat (first | refine blk_drewN ?_ _ | refine bkD ?_ | refine bkA ?_ _)); exact BKz2.out⟩
  have n4_ : Aside0 ((((w91.setCell ⟨gbz20, 0, none⟩ (.string tz16)).setCell ⟨gbz20, 1, none⟩ (.string tz17)).setCell ⟨gbz20, 2, none⟩ (.string tz18)).heap[gbz3]? = some (.cells #[.string a2] 9 (0, 0))) := ⟨by (with_reducible repeat (first | refine blk_drewN ?_ _ | refine bkD ?_ | refine bkA ?_ _)); refine blk_far ?_ NBz3_z20.out _; refine blk_far ?_ NBz3_z20.out _; refine blk_far ?_ NBz3_z20.out _; (with_reducible repeat (first | refine blk_drewN ?_ _ | refine bkD ?_ | refine bkA ?_ _)); exact BKz3.out⟩
  have n5_ : Aside0 ((((w91.setCell ⟨gbz20, 0, none⟩ (.string tz16)).setCell ⟨gbz20, 1, none⟩ (.string tz17)).setCell ⟨gbz20, 2, none⟩ (.string tz18)).heap[gbz4]? = some (.cells #[.string (⟨#[]⟩ : ByteArray), .int .i64 0, .slice none 0 0, .slice none 0 0, .bool false] 50 (0, 0))) := ⟨by (with_reducible repeat (first | refine blk_drewN ?_ _ | refine bkD ?_ | refine bkA ?_ _)); refine blk_far ?_ NBz4_z20.out _; refine blk_far ?_ NBz4_z20.out _; refine blk_far ?_ NBz4_z20.out _; (with_reducible repeat (first | refine blk_drewN ?_ _ | refine bkD ?_ | refine bkA ?_ _)); exact BKz4.out⟩
  have n6_ : Aside0 ((((w91.setCell ⟨gbz20, 0, none⟩ (.string tz16)).setCell ⟨gbz20, 1, none⟩ (.string tz17)).setCell ⟨gbz20, 2, none⟩ (.string tz18)).heap[gbz14]? = some (.cells #[.string tz5, .int .i64 tz6, .slice Ao21 tz7.length co21, .slice Ao22 tz10.length co22, .bool tz13] 50 (0, 0))) := ⟨by (with_reducible repeat (first | refine blk_drewN ?_ _ | refine bkD ?_ | refine bkA ?_ _)); refine blk_far ?_ NBz14_z20.out _; refine blk_far ?_ NBz14_z20.out _; refine blk_far ?_ NBz14_z20.out _; (with_reducible repeat (first | refine blk_drewN ?_ _ | refine bkD ?_ | refine bkA ?_ _)); exact BKz14.out⟩
  have n7_ : Aside0 ((((w91.setCell ⟨gbz20, 0, none⟩ (.string tz16)).setCell ⟨gbz20, 1, none⟩ (.string tz17)).setCell ⟨gbz20, 2, none⟩ (.string tz18)).heap[gbz20]? = some (.cells #[.string tz16, .string tz17, .string tz18] 74 (0, 0))) := ⟨by (with_reducible repeat (first | refine blk_drewN ?_ _ | refine bkD ?_ | refine bkA ?_ _)); apply bp3; (with_reducible repeat (first | refine blk_drewN ?_ _ | refine bkD ?_ | refine bkA ?_ _)); exact BKz20.out⟩
  have n8_ : Aside0 (Below w.heap.size w (((w91.setCell ⟨gbz20, 0, none⟩ (.string tz16)).setCell ⟨gbz20, 1, none⟩ (.string tz17)).setCell ⟨gbz20, 2, none⟩ (.string tz18))) := (sB_ HB)
  (try clear HO_z15002); (try clear HO_z15003); (try clear BKz1); (try clear BKz2); (try clear BKz3); (try clear BKz4); (try clear BKz14); (try clear BKz20); (try clear HB)
  generalize (((w91.setCell ⟨gbz20, 0, none⟩ (.string tz16)).setCell ⟨gbz20, 1, none⟩ (.string tz17)).setCell ⟨gbz20, 2, none⟩ (.string tz18)) = w99 at n0_ n1_ n2_ n3_ n4_ n5_ n6_ n7_ n8_ ⊢
  have HO_z15002 := n0_; have HO_z15003 := n1_; have BKz1 := n2_; have BKz2 := n3_; have BKz3 := n4_; have BKz4 := n5_; have BKz14 := n6_; have BKz20 := n7_; have HB := n8_; clear n0_ n1_ n2_ n3_ n4_ n5_ n6_ n7_ n8_
  have n0_ := am (Kd.R_drew HO_z15002.out)
  have n1_ := am (Kd.R_drew HO_z15003.out)
  have n2_ := am (bkD BKz1.out)
  have n3_ := am (bkD BKz2.out)
  have n4_ := am (bkD BKz3.out)
  have n5_ := am (bkD BKz4.out)
  have n6_ := am (bkD BKz14.out)
  have n7_ := am (bkD BKz20.out)
  have n8_ := am (below_drew1 HB.out)
  clear HO_z15002 HO_z15003 BKz1 BKz2 BKz3 BKz4 BKz14 BKz20 HB; have HO_z15002 := n0_; have HO_z15003 := n1_; have BKz1 := n2_; have BKz2 := n3_; have BKz3 := n4_; have BKz4 := n5_; have BKz14 := n6_; have BKz20 := n7_; have HB := n8_; clear n0_ n1_ n2_ n3_ n4_ n5_ n6_ n7_ n8_
  refine start_ (n := 4) (S := fun w' => w'.cell? ⟨gbz14, 0, none⟩ = some (.string tz5) ∧ w'.cell? ⟨gbz14, 1, none⟩ = some (.int .i64 tz6) ∧ w'.cell? ⟨gbz14, 2, none⟩ = some (.slice Ao21 tz7.length co21) ∧ w'.cell? ⟨gbz14, 3, none⟩ = some (.slice Ao22 tz10.length co22) ∧ w'.cell? ⟨gbz14, 4, none⟩ = some (.bool tz13)) (ds := []) #[false, false, false, false] (by kernel_rfl) rfl rfl (bc5 BKz14) (fun hHeld => ?_)
  generalize w99.drew = w100 at HO_z15002 HO_z15003 BKz1 BKz2 BKz3 BKz4 BKz14 BKz20 HB hHeld ⊢
  refine pn_ 1 (some 6) rfl rfl (.inl ⟨by rfl, by intro w'; go_simp; with_reducible rfl⟩) (by simp only [Act.put, sa_, s0_, s1_, i64_w, i32_w]; rfl) ?_
  refine tn_ 0 (some 46) rfl rfl (.inl ⟨by rfl, by rintro w' ⟨s0, s1, s2, s3, s4⟩; go_simp; with_reducible rfl⟩) hHeld (by simp only [Act.put, sa_, s0_, s1_, i64_w, i32_w]; rfl) ?_
  refine one_ (i := 2) (N := none) #[true, true, true, false] rfl rfl (by kernel_rfl) (by decide) (fun K hK => ?_)
  have hs101 : w100.cell? ⟨gbz4, 0, none⟩ = some (.string (⟨#[]⟩ : ByteArray)) := (blk_cell BKz4.out 0).trans rfl
  have hfs101 := blk_frozen BKz4.out 0
  have := NBz1_z4.out
  have := NBz2_z4.out
  have := NBz3_z4.out
  have := NBz14_z4.out
  have := NBz20_z4.out
  have := NBz4_z1.out
  have := NBz4_z2.out
  have := NBz4_z3.out
  have := NBz4_z14.out
  have := NBz4_z20.out
  have hs102 : w100.cell? ⟨gbz4, 1, none⟩ = some (.int .i64 0) := (blk_cell BKz4.out 1).trans rfl
  have hfs102 := blk_frozen BKz4.out 1
  have := NBz1_z4.out
  have := NBz2_z4.out
  have := NBz3_z4.out
  have := NBz14_z4.out
  have := NBz20_z4.out
  have := NBz4_z1.out
  have := NBz4_z2.out
  have := NBz4_z3.out
  have := NBz4_z14.out
  have := NBz4_z20.out
  have hs103 : w100.cell? ⟨gbz4, 2, none⟩ = some (.slice none 0 0) := (blk_cell BKz4.out 2).trans rfl
  have hfs103 := blk_frozen BKz4.out 2
  have := NBz1_z4.out
  have := NBz2_z4.out
  have := NBz3_z4.out
  have := NBz14_z4.out
  have := NBz20_z4.out
  have := NBz4_z1.out
  have := NBz4_z2.out
  have := NBz4_z3.out
  have := NBz4_z14.out
  have := NBz4_z20.out
  have hs104 : w100.cell? ⟨gbz4, 3, none⟩ = some (.slice none 0 0) := (blk_cell BKz4.out 3).trans rfl
  have hfs104 := blk_frozen BKz4.out 3
  have := NBz1_z4.out
  have := NBz2_z4.out
  have := NBz3_z4.out
  have := NBz14_z4.out
  have := NBz20_z4.out
  have := NBz4_z1.out
  have := NBz4_z2.out
  have := NBz4_z3.out
  have := NBz4_z14.out
  have := NBz4_z20.out
  have hs105 : w100.cell? ⟨gbz4, 4, none⟩ = some (.bool false) := (blk_cell BKz4.out 4).trans rfl
  have hfs105 := blk_frozen BKz4.out 4
  have := NBz1_z4.out
  have := NBz2_z4.out
  have := NBz3_z4.out
  have := NBz14_z4.out
  have := NBz20_z4.out
  have := NBz4_z1.out
  have := NBz4_z2.out
  have := NBz4_z3.out
  have := NBz4_z14.out
  have := NBz4_z20.out
  refine skip_ (by rfl) rfl (by go_simp; rfl) ?_
  refine hK.out _ _ ⟨((cf5 NBz14_z4).trans (hHeld.1)), ((cf5 NBz14_z4).trans (hHeld.2.1)), ((cf5 NBz14_z4).trans (hHeld.2.2.1)), ((cf5 NBz14_z4).trans (hHeld.2.2.2.1)), ((cf5 NBz14_z4).trans (hHeld.2.2.2.2))⟩ (fun hHeld => ?_)
  clear hK K
  refine pn_ 3 (some 8) rfl rfl (.inl ⟨by rfl, by intro w'; go_simp; with_reducible rfl⟩) (by simp only [Act.put, sa_, s0_, s1_, i64_w, i32_w]; rfl) ?_
  refine done_ (by kernel_rfl) ?_
  try go_wp2
  refine bodyPost_ret (results_list (rs := [.tmp 6, .cell 7 50, .tmp 8]) rfl (by simp) (.tmp (.cell gbz4 50 #[.string tz5, .int .i64 tz6, .slice Ao21 tz7.length co21, .slice Ao22 tz10.length co22, .bool tz13] (0, 0) _ rfl (by (with_reducible repeat (first | refine blk_drewN ?_ _ | refine bkD ?_ | refine bkA ?_ _)); apply bp5; exact pk BKz4) Try.underlying50 rfl (by kernel_rfl) (.tmp .nil)))) rfl ?_
  exact ⟨_, _, by first | rfl | (simp <;> rfl) | (simp [*] <;> rfl), by (with_reducible repeat first | apply ra | apply rn | apply rd); exact Kd.R_mono (rf5 (Kd.R_types HO_z15002.out BKz4.out (by decide)) (fun _ hk => hk.2)) (fun _ hk => trivial), by (with_reducible repeat first | apply ra | apply rn | apply rd); exact Kd.R_mono (rf5 (Kd.R_types HO_z15003.out BKz4.out (by decide)) (fun _ hk => hk.2)) (fun _ hk => trivial), sC_ HB⟩
 rw [if_neg c84] at H
 have c84b0 : ((l0_3.length : Int) == 2000) = false := beq_eq_false_iff_ne.mpr c84
 have c84b1 : ((l0_3.length : Int) != 2000) = true := bne_iff_ne.mpr c84
 replace H := ob_ H
 obtain ⟨⟨tz21, tz22, tz23, tz24⟩, A1060, H⟩ := H
 replace H : (if tz24 = 0 then ((ideal_own.f a0_0 a0_1 l0_2 l0_3 a0_4).bind fun btz26 => (if btz26.2.2.2.1.length < 2932031007402 then ((some (btz26.2.2.2.1 ++ [(⟨a1, a2, tz21⟩ : S74)] : List (S74))).bind fun yz35 => ((ideal_clash.f tz22 tz23 btz26.2.2.1 yz35 btz26.2.2.2.2).bind fun tz38 => (some (tz21, tz22, tz23, btz26.2.2.1, yz35, tz38, 0)))) else (none))) else (some ((⟨#[]⟩ : ByteArray), tz5, tz6, tz7, tz10, tz13, tz24))) = some (r1, r2, r3, r4, r5, r6, r7) := H
 have A106 := Aside0.mk A1060
 clear A1060
 by_cases c107 : tz24 = 0
 rotate_left
 ·rw [if_neg c107] at H
  have c107b0 : (tz24 == 0) = false := beq_eq_false_iff_ne.mpr c107
  have c107b1 : (tz24 != 0) = true := bne_iff_ne.mpr c107
  simp only [Option.some.injEq, Prod.mk.injEq] at H
  obtain ⟨rfl, rfl, rfl, rfl, rfl, rfl, rfl⟩ := H
  have hnb156 := NBz1_z2.out
  have hnc156 := NBz2_z1.out
  have hnb157 := NBz1_z3.out
  have hnc157 := NBz3_z1.out
  have hnb158 := NBz1_z4.out
  have hnc158 := NBz4_z1.out
  have hnb159 := NBz1_z14.out
  have hnc159 := NBz14_z1.out
  obtain ⟨hcz160_0, hcz160_1, hcz160_2, hcz160_3, hcz160_4⟩ := bc5 BKz1
  obtain ⟨hfz160_0, hfz160_1, hfz160_2, hfz160_3, hfz160_4⟩ := bf5 BKz1
  try go_wp2_with (first | ((with_reducible refine gate_callee (f := 65) rfl ?_); refine goesL_ (some 35) rfl rfl Try.func65 (by kernel_rfl) rfl #[.slice A0_3 l0_3.length c0_3, .func (.func 66) #[] #[.pointer (some ⟨gbz2, 0, none⟩), .pointer (some ⟨gbz3, 0, none⟩)]] rfl (by (try simp only [List.map_toArray, List.map_cons, List.map_nil]) <;> rfl) ?_; (with_reducible refine (ideal_find_66.calls _ _ l0_3 a1 a2 tz16 tz17 tz18 false _ ?side1 ?side2 ?side3 ?side4 A62.out).mono ?_); (case side1 => repeat (first | exact (Kd.C_below HR0_3.out HB.out) | (with_reducible refine Kd.C_alloc ?_ _) | (with_reducible refine Kd.C_drewN ?_ _) | (with_reducible refine Kd.C_drew ?_))); (case side2 => exact HC0_3.out); (case side3 => exact by (with_reducible repeat (first | refine blk_drewN ?_ _ | refine bkD ?_ | refine bkA ?_ _)); exact BKz2.out); (case side4 => exact by (with_reducible repeat (first | refine blk_drewN ?_ _ | refine bkD ?_ | refine bkA ?_ _)); exact BKz3.out); rintro e w161 ⟨rfl, hb⟩; refine ⟨_, rfl, ?_⟩; have n0_ := am (Kd.R_below (pr HO_z15002) hb); have n1_ := am (Kd.R_below (pr HO_z15003) hb); have n2_ := am (bkB (pk BKz1) hb); have n3_ := am (bkB (pk BKz2) hb); have n4_ := am (bkB (pk BKz3) hb); have n5_ := am (bkB (g := gbz4) (o := .cells #[.string (⟨#[]⟩ : ByteArray), .int .i64 0, .slice none 0 0, .slice none 0 0, .bool false] 50 (0, 0)) (pk BKz4) hb); have n6_ := am (bkB (pk BKz14) hb); have n7_ := am (below_step (sC_ HB) hb); clear HO_z15002; clear HO_z15003; clear BKz1; clear BKz2; clear BKz3; clear BKz4; clear BKz14; clear HB; have HO_z15002 := n0_; have HO_z15003 := n1_; have BKz1 := n2_; have BKz2 := n3_; have BKz3 := n4_; have BKz4 := n5_; have BKz14 := n6_; have HB := n7_; clear n0_ n1_ n2_ n3_ n4_ n5_ n6_ n7_; (try clear hi)) | ((with_reducible refine gate_dst (N := 10) rfl ?_); (try (refine gate_guard (by rfl) ?_; dsimp only)); refine box_event ?hg (N := 10) ?hd (cs := #[.string (⟨#[]⟩ : ByteArray), .string (⟨#[]⟩ : ByteArray), .string (⟨#[]⟩ : ByteArray)]) (t := 74) ?hr ?_; (case hd => rfl); (case hg => rfl); (case hr => first | (go_simp; done) | (go_simp; rfl)); intro gbz20 hg w162 hbox hb; have n0_ := am (Kd.R_below (pr HO_z15002) hb); have n1_ := am (Kd.R_below (Kd.R_elderB (pr HO_z15003) gbz20 (Nat.le_of_eq hg.symm)) hb); have n2_ := am (bkB (pk BKz1) hb); have n3_ := am (bkB (pk BKz2) hb); have n4_ := am (bkB (pk BKz3) hb); have n5_ := am (bkB (g := gbz4) (o := .cells #[.string (⟨#[]⟩ : ByteArray), .int .i64 0, .slice none 0 0, .slice none 0 0, .bool false] 50 (0, 0)) (pk BKz4) hb); have n6_ := am (bkB (pk BKz14) hb); have n7_ := am (below_step (sC_ HB) hb); have n8_ := am (hbox); have n9_ := ge_ hg (sC_ HB); have n10_ := ge_ hg (sC_ HB); have n11_ := nl_ hg BKz1; have n12_ := ng_ hg BKz1; have n13_ := nl_ hg BKz2; have n14_ := ng_ hg BKz2; have n15_ := nl_ hg BKz3; have n16_ := ng_ hg BKz3; have n17_ := am ((by rw [hg]; exact Nat.ne_of_lt (blk_lt (g := gbz4) (o := .cells #[.string (⟨#[]⟩ : ByteArray), .int .i64 0, .slice none 0 0, .slice none 0 0, .bool false] 50 (0, 0)) (pk BKz4)) : gbz4 ≠ gbz20)); have n18_ := am ((by rw [hg]; exact Nat.ne_of_gt (blk_lt (g := gbz4) (o := .cells #[.string (⟨#[]⟩ : ByteArray), .int .i64 0, .slice none 0 0, .slice none 0 0, .bool false] 50 (0, 0)) (pk BKz4)) : gbz20 ≠ gbz4)); have n19_ := nl_ hg BKz14; have n20_ := ng_ hg BKz14; clear HO_z15002; clear HO_z15003; clear BKz1; clear BKz2; clear BKz3; clear BKz4; clear BKz14; clear HB; have HO_z15002 := n0_; have HO_z15003 := n1_; have BKz1 := n2_; have BKz2 := n3_; have BKz3 := n4_; have BKz4 := n5_; have BKz14 := n6_; have HB := n7_; have BKz20 := n8_; have GWz20 := n9_; have GEz20 := n10_; have NBz1_z20 := n11_; have NBz20_z1 := n12_; have NBz2_z20 := n13_; have NBz20_z2 := n14_; have NBz3_z20 := n15_; have NBz20_z3 := n16_; have NBz4_z20 := n17_; have NBz20_z4 := n18_; have NBz14_z20 := n19_; have NBz20_z14 := n20_; clear n0_ n1_ n2_ n3_ n4_ n5_ n6_ n7_ n8_ n9_ n10_ n11_ n12_ n13_ n14_ n15_ n16_ n17_ n18_ n19_ n20_; clear hb hbox hg; have hnb163 := NBz20_z1.out; have hnc163 := NBz1_z20.out; have hnb164 := NBz20_z2.out; have hnc164 := NBz2_z20.out; have hnb165 := NBz20_z3.out; have hnc165 := NBz3_z20.out; have hnb166 := NBz20_z4.out; have hnc166 := NBz4_z20.out; have hnb167 := NBz20_z14.out; have hnc167 := NBz14_z20.out; obtain ⟨hcz168_0, hcz168_1, hcz168_2⟩ := bc3 BKz20; obtain ⟨hfz168_0, hfz168_1, hfz168_2⟩ := bf3 BKz20; obtain ⟨hcz169_0, hcz169_1, hcz169_2, hcz169_3, hcz169_4⟩ := bc5 BKz1; obtain ⟨hfz169_0, hfz169_1, hfz169_2, hfz169_3, hfz169_4⟩ := bf5 BKz1) | ((with_reducible refine gate_callee (f := 21) rfl ?_); refine goesL_ (some 50) rfl rfl Try.func21 (by kernel_rfl) rfl #[.agg #[.string a0_0, .int .i64 a0_1], .int .i64 40] rfl (by (try simp only [List.map_toArray, List.map_cons, List.map_nil]) <;> rfl) ?_; (with_reducible refine (tape_Take.calls kj4 a0_0 a0_1 40 tz21 tz22 tz23 tz24 _ A106.out).mono ?_); rintro e w170 ⟨rfl, hb⟩; refine ⟨_, rfl, ?_⟩; have n0_ := am (Kd.R_below (by (with_reducible repeat first | apply ra | apply rn | apply rd); exact (rs3 HO_z15002 BKz20 (by decide))) hb); have n1_ := am (Kd.R_below (by (with_reducible repeat first | apply ra | apply rn | apply rd); exact (Kd.R_mono (rf3 (Kd.R_mono HO_z15003.out (fun k_ hk => (⟨hk, hk.2⟩ : _ ∧ k_ ≠ gbz20))) (fun _ hk => hk.2)) (fun _ h_ => h_.1))) hb); have n2_ := am (bkB (g := gbz1) (o := .cells #[.string a0_0, .int .i64 a0_1, .slice A0_2 l0_2.length c0_2, .slice A0_3 l0_3.length c0_3, .bool a0_4] 50 (0, 0)) (by (with_reducible repeat (first | refine blk_drewN ?_ _ | refine bkD ?_ | refine bkA ?_ _)); refine blk_far ?_ NBz1_z20.out _; refine blk_far ?_ NBz1_z20.out _; refine blk_far ?_ NBz1_z20.out _; exact pk BKz1) hb); have n3_ := am (bkB (g := gbz2) (o := .cells #[.string a1] 9 (0, 0)) (by (with_reducible repeat (first | refine blk_drewN ?_ _ | refine bkD ?_ | refine bkA ?_ _)); refine blk_far ?_ NBz2_z20.out _; refine blk_far ?_ NBz2_z20.out _; refine blk_far ?_ NBz2_z20.out _; exact pk BKz2) hb); have n4_ := am (bkB (g := gbz3) (o := .cells #[.string a2] 9 (0, 0)) (by (with_reducible repeat (first | refine blk_drewN ?_ _ | refine bkD ?_ | refine bkA ?_ _)); refine blk_far ?_ NBz3_z20.out _; refine blk_far ?_ NBz3_z20.out _; refine blk_far ?_ NBz3_z20.out _; exact pk BKz3) hb); have n5_ := am (bkB (g := gbz4) (o := .cells #[.string (⟨#[]⟩ : ByteArray), .int .i64 0, .slice none 0 0, .slice none 0 0, .bool false] 50 (0, 0)) (by (with_reducible repeat (first | refine blk_drewN ?_ _ | refine bkD ?_ | refine bkA ?_ _)); refine blk_far ?_ NBz4_z20.out _; refine blk_far ?_ NBz4_z20.out _; refine blk_far ?_ NBz4_z20.out _; exact pk BKz4) hb); have n6_ := am (bkB (g := gbz14) (o := .cells #[.string tz5, .int .i64 tz6, .slice Ao21 tz7.length co21, .slice Ao22 tz10.length co22, .bool tz13] 50 (0, 0)) (by (with_reducible repeat (first | refine blk_drewN ?_ _ | refine bkD ?_ | refine bkA ?_ _)); refine blk_far ?_ NBz14_z20.out _; refine blk_far ?_ NBz14_z20.out _; refine blk_far ?_ NBz14_z20.out _; exact pk BKz14) hb); have n7_ := am (bkB (g := gbz20) (o := .cells #[.string tz16, .string tz17, .string tz18] 74 (0, 0)) (by (with_reducible repeat (first | refine blk_drewN ?_ _ | refine bkD ?_ | refine bkA ?_ _)); apply bp3; exact pk BKz20) hb); have n8_ := am (below_step (sC_ HB) hb); clear HO_z15002; clear HO_z15003; clear BKz1; clear BKz2; clear BKz3; clear BKz4; clear BKz14; clear BKz20; clear HB; have HO_z15002 := n0_; have HO_z15003 := n1_; have BKz1 := n2_; have BKz2 := n3_; have BKz3 := n4_; have BKz4 := n5_; have BKz14 := n6_; have BKz20 := n7_; have HB := n8_; clear n0_ n1_ n2_ n3_ n4_ n5_ n6_ n7_ n8_; (try clear hi)) | ((with_reducible refine gate_dst (N := 13) rfl ?_); (try (refine gate_guard (by rfl) ?_; dsimp only)); refine box_event ?hg (N := 13) ?hd (cs := #[.string (⟨#[]⟩ : ByteArray), .int .i64 0]) (t := 23) ?hr ?_; (case hd => rfl); (case hg => rfl); (case hr => first | (go_simp; done) | (go_simp; rfl)); intro gbz25 hg w171 hbox hb; have n0_ := am (Kd.R_below (pr HO_z15002) hb); have n1_ := am (Kd.R_below (pr HO_z15003) hb); have n2_ := am (bkB (pk BKz1) hb); have n3_ := am (bkB (pk BKz2) hb); have n4_ := am (bkB (pk BKz3) hb); have n5_ := am (bkB (g := gbz4) (o := .cells #[.string (⟨#[]⟩ : ByteArray), .int .i64 0, .slice none 0 0, .slice none 0 0, .bool false] 50 (0, 0)) (pk BKz4) hb); have n6_ := am (bkB (pk BKz14) hb); have n7_ := am (bkB (pk BKz20) hb); have n8_ := am (below_step (sC_ HB) hb); have n9_ := am (hbox); have n10_ := ge_ hg (sC_ HB); have n11_ := ge_ hg (sC_ HB); have n12_ := nl_ hg BKz1; have n13_ := ng_ hg BKz1; have n14_ := nl_ hg BKz2; have n15_ := ng_ hg BKz2; have n16_ := nl_ hg BKz3; have n17_ := ng_ hg BKz3; have n18_ := am ((by rw [hg]; exact Nat.ne_of_lt (blk_lt (g := gbz4) (o := .cells #[.string (⟨#[]⟩ : ByteArray), .int .i64 0, .slice none 0 0, .slice none 0 0, .bool false] 50 (0, 0)) (pk BKz4)) : gbz4 ≠ gbz25)); have n19_ := am ((by rw [hg]; exact Nat.ne_of_gt (blk_lt (g := gbz4) (o := .cells #[.string (⟨#[]⟩ : ByteArray), .int .i64 0, .slice none 0 0, .slice none 0 0, .bool false] 50 (0, 0)) (pk BKz4)) : gbz25 ≠ gbz4)); have n20_ := nl_ hg BKz14; have n21_ := ng_ hg BKz14; have n22_ := nl_ hg BKz20; have n23_ := ng_ hg BKz20; clear HO_z15002; clear HO_z15003; clear BKz1; clear BKz2; clear BKz3; clear BKz4; clear BKz14; clear BKz20; clear HB; have HO_z15002 := n0_; have HO_z15003 := n1_; have BKz1 := n2_; have BKz2 := n3_; have BKz3 := n4_; have BKz4 := n5_; have BKz14 := n6_; have BKz20 := n7_; have HB := n8_; have BKz25 := n9_; have GWz25 := n10_; have GEz25 := n11_; have NBz1_z25 := n12_; have NBz25_z1 := n13_; have NBz2_z25 := n14_; have NBz25_z2 := n15_; have NBz3_z25 := n16_; have NBz25_z3 := n17_; have NBz4_z25 := n18_; have NBz25_z4 := n19_; have NBz14_z25 := n20_; have NBz25_z14 := n21_; have NBz20_z25 := n22_; have NBz25_z20 := n23_; clear n0_ n1_ n2_ n3_ n4_ n5_ n6_ n7_ n8_ n9_ n10_ n11_ n12_ n13_ n14_ n15_ n16_ n17_ n18_ n19_ n20_ n21_ n22_ n23_; clear hb hbox hg; have hnb172 := NBz25_z1.out; have hnc172 := NBz1_z25.out; have hnb173 := NBz25_z2.out; have hnc173 := NBz2_z25.out; have hnb174 := NBz25_z3.out; have hnc174 := NBz3_z25.out; have hnb175 := NBz25_z4.out; have hnc175 := NBz4_z25.out; have hnb176 := NBz25_z14.out; have hnc176 := NBz14_z25.out; have hnb177 := NBz25_z20.out; have hnc177 := NBz20_z25.out; obtain ⟨hcz178_0, hcz178_1⟩ := bc2 BKz25; obtain ⟨hfz178_0, hfz178_1⟩ := bf2 BKz25))
  have n0_ : Aside0 (Kd.R k72 72 ((w171.setCell ⟨gbz25, 0, none⟩ (.string tz22)).setCell ⟨gbz25, 1, none⟩ (.int .i64 tz23)) w.heap.size (fun _ => True) (.slice Ao21 tz7.length co21) tz7) := ⟨by (with_reducible repeat first | apply ra | apply rn | apply rd); exact Kd.R_mono (rf2 (Kd.R_types HO_z15002.out BKz25.out (by decide)) (fun _ hk => hk.2)) (fun _ hk => trivial)⟩
  have n1_ : Aside0 (Kd.R k74 74 ((w171.setCell ⟨gbz25, 0, none⟩ (.string tz22)).setCell ⟨gbz25, 1, none⟩ (.int .i64 tz23)) w.heap.size (fun k_ => k_ ≠ gbz20) (.slice Ao22 tz10.length co22) tz10) := ⟨by (with_reducible repeat first | apply ra | apply rn | apply rd); exact Kd.R_mono (rf2 (Kd.R_types HO_z15003.out BKz25.out (by decide)) (fun _ hk => hk.2)) (fun _ hk => hk.1.2)⟩
  have n2_ : Aside0 (((w171.setCell ⟨gbz25, 0, none⟩ (.string tz22)).setCell ⟨gbz25, 1, none⟩ (.int .i64 tz23)).heap[gbz1]? = some (.cells #[.string a0_0, .int .i64 a0_1, .slice A0_2 l0_2.length c0_2, .slice A0_3 l0_3.length c0_3, .bool a0_4] 50 (0, 0))) := ⟨by (with_reducible repeat (first | refine blk_drewN ?_ _ | refine bkD ?_ | refine bkA ?_ _)); refine blk_far ?_ NBz1_z25.out _; refine blk_far ?_ NBz1_z25.out _; (with_reducible repeat (first | refine blk_drewN ?_ _ | refine bkD ?_ | refine bkA ?_ _)); exact BKz1.out⟩
  have n3_ : Aside0 (((w171.setCell ⟨gbz25, 0, none⟩ (.string tz22)).setCell ⟨gbz25, 1, none⟩ (.int .i64 tz23)).heap[gbz2]? = some (.cells #[.string a1] 9 (0, 0))) := ⟨by (with_reducible repeat (first | refine blk_drewN ?_ _ | refine bkD ?_ | refine bkA ?_ _)); refine blk_far ?_ NBz2_z25.out _; refine blk_far ?_ NBz2_z25.out _; (with_reducible repeat (first | refine blk_drewN ?_ _ | refine bkD ?_ | refine bkA ?_ _)); exact BKz2.out⟩
  have n4_ : Aside0 (((w171.setCell ⟨gbz25, 0, none⟩ (.string tz22)).setCell ⟨gbz25, 1, none⟩ (.int .i64 tz23)).heap[gbz3]? = some (.cells #[.string a2] 9 (0, 0))) := ⟨by (with_reducible repeat (first | refine blk_drewN ?_ _ | refine bkD ?_ | refine bkA ?_ _)); refine blk_far ?_ NBz3_z25.out _; refine blk_far ?_ NBz3_z25.out _; (with_reducible repeat (first | refine blk_drewN ?_ _ | refine bkD ?_ | refine bkA ?_ _)); exact BKz3.out⟩
  have n5_ : Aside0 (((w171.setCell ⟨gbz25, 0, none⟩ (.string tz22)).setCell ⟨gbz25, 1, none⟩ (.int .i64 tz23)).heap[gbz4]? = some (.cells #[.string (⟨#[]⟩ : ByteArray), .int .i64 0, .slice none 0 0, .slice none 0 0, .bool false] 50 (0, 0))) := ⟨by (with_reducible repeat (first | refine blk_drewN ?_ _ | refine bkD ?_ | refine bkA ?_ _)); refine blk_far ?_ NBz4_z25.out _; refine blk_far ?_ NBz4_z25.out _; (with_reducible repeat (first | refine blk_drewN ?_ _ | refine bkD ?_ | refine bkA ?_ _)); exact BKz4.out⟩
  have n6_ : Aside0 (((w171.setCell ⟨gbz25, 0, none⟩ (.string tz22)).setCell ⟨gbz25, 1, none⟩ (.int .i64 tz23)).heap[gbz14]? = some (.cells #[.string tz5, .int .i64 tz6, .slice Ao21 tz7.length co21, .slice Ao22 tz10.length co22, .bool tz13] 50 (0, 0))) := ⟨by (with_reducible repeat (first | refine blk_drewN ?_ _ | refine bkD ?_ | refine bkA ?_ _)); refine blk_far ?_ NBz14_z25.out _; refine blk_far ?_ NBz14_z25.out _; (with_reducible repeat (first | refine blk_drewN ?_ _ | refine bkD ?_ | refine bkA ?_ _)); exact BKz14.out⟩
  have n7_ : Aside0 (((w171.setCell ⟨gbz25, 0, none⟩ (.string tz22)).setCell ⟨gbz25, 1, none⟩ (.int .i64 tz23)).heap[gbz20]? = some (.cells #[.string tz16, .string tz17, .string tz18] 74 (0, 0))) := ⟨by (with_reducible repeat (first | refine blk_drewN ?_ _ | refine bkD ?_ | refine bkA ?_ _)); refine blk_far ?_ NBz20_z25.out _; refine blk_far ?_ NBz20_z25.out _; (with_reducible repeat (first | refine blk_drewN ?_ _ | refine bkD ?_ | refine bkA ?_ _)); exact BKz20.out⟩
  have n8_ : Aside0 (((w171.setCell ⟨gbz25, 0, none⟩ (.string tz22)).setCell ⟨gbz25, 1, none⟩ (.int .i64 tz23)).heap[gbz25]? = some (.cells #[.string tz22, .int .i64 tz23] 23 (0, 0))) := ⟨by (with_reducible repeat (first | refine blk_drewN ?_ _ | refine bkD ?_ | refine bkA ?_ _)); apply bp2; (with_reducible repeat (first | refine blk_drewN ?_ _ | refine bkD ?_ | refine bkA ?_ _)); exact BKz25.out⟩
  have n9_ : Aside0 (Below w.heap.size w ((w171.setCell ⟨gbz25, 0, none⟩ (.string tz22)).setCell ⟨gbz25, 1, none⟩ (.int .i64 tz23))) := (sB_ HB)
  (try clear HO_z15002); (try clear HO_z15003); (try clear BKz1); (try clear BKz2); (try clear BKz3); (try clear BKz4); (try clear BKz14); (try clear BKz20); (try clear BKz25); (try clear HB)
  generalize ((w171.setCell ⟨gbz25, 0, none⟩ (.string tz22)).setCell ⟨gbz25, 1, none⟩ (.int .i64 tz23)) = w179 at n0_ n1_ n2_ n3_ n4_ n5_ n6_ n7_ n8_ n9_ ⊢
  have HO_z15002 := n0_; have HO_z15003 := n1_; have BKz1 := n2_; have BKz2 := n3_; have BKz3 := n4_; have BKz4 := n5_; have BKz14 := n6_; have BKz20 := n7_; have BKz25 := n8_; have HB := n9_; clear n0_ n1_ n2_ n3_ n4_ n5_ n6_ n7_ n8_ n9_
  have n0_ := am (Kd.R_drew HO_z15002.out)
  have n1_ := am (Kd.R_drew HO_z15003.out)
  have n2_ := am (bkD BKz1.out)
  have n3_ := am (bkD BKz2.out)
  have n4_ := am (bkD BKz3.out)
  have n5_ := am (bkD BKz4.out)
  have n6_ := am (bkD BKz14.out)
  have n7_ := am (bkD BKz20.out)
  have n8_ := am (bkD BKz25.out)
  have n9_ := am (below_drew1 HB.out)
  clear HO_z15002 HO_z15003 BKz1 BKz2 BKz3 BKz4 BKz14 BKz20 BKz25 HB; have HO_z15002 := n0_; have HO_z15003 := n1_; have BKz1 := n2_; have BKz2 := n3_; have BKz3 := n4_; have BKz4 := n5_; have BKz14 := n6_; have BKz20 := n7_; have BKz25 := n8_; have HB := n9_; clear n0_ n1_ n2_ n3_ n4_ n5_ n6_ n7_ n8_ n9_
  refine start_ (n := 5) (S := fun w' => w'.cell? ⟨gbz14, 0, none⟩ = some (.string tz5) ∧ w'.cell? ⟨gbz14, 1, none⟩ = some (.int .i64 tz6) ∧ w'.cell? ⟨gbz14, 2, none⟩ = some (.slice Ao21 tz7.length co21) ∧ w'.cell? ⟨gbz14, 3, none⟩ = some (.slice Ao22 tz10.length co22) ∧ w'.cell? ⟨gbz14, 4, none⟩ = some (.bool tz13)) (ds := []) #[false, false, false, false, false] (by kernel_rfl) rfl rfl (bc5 BKz14) (fun hHeld => ?_)
  generalize w179.drew = w180 at HO_z15002 HO_z15003 BKz1 BKz2 BKz3 BKz4 BKz14 BKz20 BKz25 HB hHeld ⊢
  refine pn_ 1 (some 57) rfl rfl (.inl ⟨by rfl, by intro w'; go_simp; with_reducible rfl⟩) (by simp only [Act.put, sa_, s0_, s1_, i64_w, i32_w]; rfl) ?_
  refine pn_ 2 (some 6) rfl rfl (.inl ⟨by rfl, by intro w'; go_simp; with_reducible rfl⟩) (by simp only [Act.put, sa_, s0_, s1_, i64_w, i32_w]; rfl) ?_
  refine tn_ 0 (some 56) rfl rfl (.inl ⟨by rfl, by rintro w' ⟨s0, s1, s2, s3, s4⟩; go_simp; with_reducible rfl⟩) hHeld (by simp only [Act.put, sa_, s0_, s1_, i64_w, i32_w]; rfl) ?_
  refine one_ (i := 3) (N := none) #[true, true, true, true, false] rfl rfl (by kernel_rfl) (by decide) (fun K hK => ?_)
  have hs181 : w180.cell? ⟨gbz4, 0, none⟩ = some (.string (⟨#[]⟩ : ByteArray)) := (blk_cell BKz4.out 0).trans rfl
  have hfs181 := blk_frozen BKz4.out 0
  have := NBz1_z4.out
  have := NBz2_z4.out
  have := NBz3_z4.out
  have := NBz14_z4.out
  have := NBz20_z4.out
  have := NBz25_z4.out
  have := NBz4_z1.out
  have := NBz4_z2.out
  have := NBz4_z3.out
  have := NBz4_z14.out
  have := NBz4_z20.out
  have := NBz4_z25.out
  have hs182 : w180.cell? ⟨gbz4, 1, none⟩ = some (.int .i64 0) := (blk_cell BKz4.out 1).trans rfl
  have hfs182 := blk_frozen BKz4.out 1
  have := NBz1_z4.out
  have := NBz2_z4.out
  have := NBz3_z4.out
  have := NBz14_z4.out
  have := NBz20_z4.out
  have := NBz25_z4.out
  have := NBz4_z1.out
  have := NBz4_z2.out
  have := NBz4_z3.out
  have := NBz4_z14.out
  have := NBz4_z20.out
  have := NBz4_z25.out
  have hs183 : w180.cell? ⟨gbz4, 2, none⟩ = some (.slice none 0 0) := (blk_cell BKz4.out 2).trans rfl
  have hfs183 := blk_frozen BKz4.out 2
  have := NBz1_z4.out
  have := NBz2_z4.out
  have := NBz3_z4.out
  have := NBz14_z4.out
  have := NBz20_z4.out
  have := NBz25_z4.out
  have := NBz4_z1.out
  have := NBz4_z2.out
  have := NBz4_z3.out
  have := NBz4_z14.out
  have := NBz4_z20.out
  have := NBz4_z25.out
  have hs184 : w180.cell? ⟨gbz4, 3, none⟩ = some (.slice none 0 0) := (blk_cell BKz4.out 3).trans rfl
  have hfs184 := blk_frozen BKz4.out 3
  have := NBz1_z4.out
  have := NBz2_z4.out
  have := NBz3_z4.out
  have := NBz14_z4.out
  have := NBz20_z4.out
  have := NBz25_z4.out
  have := NBz4_z1.out
  have := NBz4_z2.out
  have := NBz4_z3.out
  have := NBz4_z14.out
  have := NBz4_z20.out
  have := NBz4_z25.out
  have hs185 : w180.cell? ⟨gbz4, 4, none⟩ = some (.bool false) := (blk_cell BKz4.out 4).trans rfl
  have hfs185 := blk_frozen BKz4.out 4
  have := NBz1_z4.out
  have := NBz2_z4.out
  have := NBz3_z4.out
  have := NBz14_z4.out
  have := NBz20_z4.out
  have := NBz25_z4.out
  have := NBz4_z1.out
  have := NBz4_z2.out
  have := NBz4_z3.out
  have := NBz4_z14.out
  have := NBz4_z20.out
  have := NBz4_z25.out
  refine skip_ (by rfl) rfl (by go_simp; rfl) ?_
  refine hK.out _ _ ⟨((cf5 NBz14_z4).trans (hHeld.1)), ((cf5 NBz14_z4).trans (hHeld.2.1)), ((cf5 NBz14_z4).trans (hHeld.2.2.1)), ((cf5 NBz14_z4).trans (hHeld.2.2.2.1)), ((cf5 NBz14_z4).trans (hHeld.2.2.2.2))⟩ (fun hHeld => ?_)
  clear hK K
  refine pn_ 4 (some 8) rfl rfl (.inl ⟨by rfl, by intro w'; go_simp; with_reducible rfl⟩) (by simp only [Act.put, sa_, s0_, s1_, i64_w, i32_w]; rfl) ?_
  refine done_ (by kernel_rfl) ?_
  try go_wp2
  refine bodyPost_ret (results_list (rs := [.tmp 6, .cell 7 50, .tmp 8]) rfl (by simp) (.tmp (.cell gbz4 50 #[.string tz5, .int .i64 tz6, .slice Ao21 tz7.length co21, .slice Ao22 tz10.length co22, .bool tz13] (0, 0) _ rfl (by (with_reducible repeat (first | refine blk_drewN ?_ _ | refine bkD ?_ | refine bkA ?_ _)); apply bp5; exact pk BKz4) Try.underlying50 rfl (by kernel_rfl) (.tmp .nil)))) rfl ?_
  exact ⟨_, _, by first | rfl | (simp <;> rfl) | (simp [*] <;> rfl), by (with_reducible repeat first | apply ra | apply rn | apply rd); exact Kd.R_mono (rf5 (Kd.R_types HO_z15002.out BKz4.out (by decide)) (fun _ hk => hk.2)) (fun _ hk => trivial), by (with_reducible repeat first | apply ra | apply rn | apply rd); exact Kd.R_mono (rf5 (Kd.R_types HO_z15003.out BKz4.out (by decide)) (fun _ hk => hk.2)) (fun _ hk => trivial), sC_ HB⟩
 rw [if_pos c107] at H
 have c107b0 : (tz24 == 0) = true := beq_iff_eq.mpr c107
 have c107b1 : (tz24 != 0) = false := bne_eq_false_iff_eq.mpr c107
 clear c107
 replace H := ob_ H
 obtain ⟨⟨tz26, tz27, tz28, tz31, tz34⟩, A1080, H⟩ := H
 replace H : (if tz31.length < 2932031007402 then ((some (tz31 ++ [(⟨a1, a2, tz21⟩ : S74)] : List (S74))).bind fun yz35 => ((ideal_clash.f tz22 tz23 tz28 yz35 tz34).bind fun tz38 => (some (tz21, tz22, tz23, tz28, yz35, tz38, 0)))) else (none)) = some (r1, r2, r3, r4, r5, r6, r7) := H
 have A108 := Aside0.mk A1080
 clear A1080
 by_cases c109 : tz31.length < 2932031007402
 rotate_left
 ·rw [if_neg c109] at H
  exact absurd H (by simp)
 rw [if_pos c109] at H
 have LMc109 := Aside0.mk c109
 clear c109
 obtain ⟨yz35, hyz35⟩ : ∃ y_ : List (S74), y_ = (tz31 ++ [(⟨a1, a2, tz21⟩ : S74)]) := ⟨_, rfl⟩
 replace H : ((ideal_clash.f tz22 tz23 tz28 yz35 tz34).bind fun tz38 => (some (tz21, tz22, tz23, tz28, yz35, tz38, 0))) = some (r1, r2, r3, r4, r5, r6, r7) := by first | (rw [hyz35]; with_reducible exact H) | (have H2_ := (Option.bind_some _ _).symm.trans H; rw [hyz35]; with_reducible exact H2_) | (have H2_ := (Option.bind_some _ _).symm.trans H; with_reducible exact H2_) | with_reducible exact H | (rw [hyz35]; exact H) | exact H
 have Nyz35 := am hyz35
 clear hyz35
 replace H := ob_ H
 obtain ⟨tz38, A1100, H⟩ := H
 replace H : (some (tz21, tz22, tz23, tz28, yz35, tz38, 0)) = some (r1, r2, r3, r4, r5, r6, r7) := H
 have A110 := Aside0.mk A1100
 clear A1100
 simp only [Option.some.injEq, Prod.mk.injEq] at H
 obtain ⟨rfl, rfl, rfl, rfl, rfl, rfl, rfl⟩ := H
 have hnb111 := NBz1_z2.out
 have hnc111 := NBz2_z1.out
 have hnb112 := NBz1_z3.out
 have hnc112 := NBz3_z1.out
 have hnb113 := NBz1_z4.out
 have hnc113 := NBz4_z1.out
 have hnb114 := NBz1_z14.out
 have hnc114 := NBz14_z1.out
 obtain ⟨hcz115_0, hcz115_1, hcz115_2, hcz115_3, hcz115_4⟩ := bc5 BKz1
 obtain ⟨hfz115_0, hfz115_1, hfz115_2, hfz115_3, hfz115_4⟩ := bf5 BKz1
 try go_wp2_with (first | ((with_reducible refine gate_callee (f := 65) rfl ?_); refine goesL_ (some 35) rfl rfl Try.func65 (by kernel_rfl) rfl #[.slice A0_3 l0_3.length c0_3, .func (.func 66) #[] #[.pointer (some ⟨gbz2, 0, none⟩), .pointer (some ⟨gbz3, 0, none⟩)]] rfl (by (try simp only [List.map_toArray, List.map_cons, List.map_nil]) <;> rfl) ?_; (with_reducible refine (ideal_find_66.calls _ _ l0_3 a1 a2 tz16 tz17 tz18 false _ ?side1 ?side2 ?side3 ?side4 A62.out).mono ?_); (case side1 => repeat (first | exact (Kd.C_below HR0_3.out HB.out) | (with_reducible refine Kd.C_alloc ?_ _) | (with_reducible refine Kd.C_drewN ?_ _) | (with_reducible refine Kd.C_drew ?_))); (case side2 => exact HC0_3.out); (case side3 => exact by (with_reducible repeat (first | refine blk_drewN ?_ _ | refine bkD ?_ | refine bkA ?_ _)); exact BKz2.out); (case side4 => exact by (with_reducible repeat (first | refine blk_drewN ?_ _ | refine bkD ?_ | refine bkA ?_ _)); exact BKz3.out); rintro e w116 ⟨rfl, hb⟩; refine ⟨_, rfl, ?_⟩; have n0_ := am (Kd.R_below (pr HO_z15002) hb); have n1_ := am (Kd.R_below (pr HO_z15003) hb); have n2_ := am (bkB (pk BKz1) hb); have n3_ := am (bkB (pk BKz2) hb); have n4_ := am (bkB (pk BKz3) hb); have n5_ := am (bkB (g := gbz4) (o := .cells #[.string (⟨#[]⟩ : ByteArray), .int .i64 0, .slice none 0 0, .slice none 0 0, .bool false] 50 (0, 0)) (pk BKz4) hb); have n6_ := am (bkB (pk BKz14) hb); have n7_ := am (below_step (sC_ HB) hb); clear HO_z15002; clear HO_z15003; clear BKz1; clear BKz2; clear BKz3; clear BKz4; clear BKz14; clear HB; have HO_z15002 := n0_; have HO_z15003 := n1_; have BKz1 := n2_; have BKz2 := n3_; have BKz3 := n4_; have BKz4 := n5_; have BKz14 := n6_; have HB := n7_; clear n0_ n1_ n2_ n3_ n4_ n5_ n6_ n7_; (try clear hi)) | ((with_reducible refine gate_dst (N := 10) rfl ?_); (try (refine gate_guard (by rfl) ?_; dsimp only)); refine box_event ?hg (N := 10) ?hd (cs := #[.string (⟨#[]⟩ : ByteArray), .string (⟨#[]⟩ : ByteArray), .string (⟨#[]⟩ : ByteArray)]) (t := 74) ?hr ?_; (case hd => rfl); (case hg => rfl); (case hr => first | (go_simp; done) | (go_simp; rfl)); intro gbz20 hg w117 hbox hb; have n0_ := am (Kd.R_below (pr HO_z15002) hb); have n1_ := am (Kd.R_below (Kd.R_elderB (pr HO_z15003) gbz20 (Nat.le_of_eq hg.symm)) hb); have n2_ := am (bkB (pk BKz1) hb); have n3_ := am (bkB (pk BKz2) hb); have n4_ := am (bkB (pk BKz3) hb); have n5_ := am (bkB (g := gbz4) (o := .cells #[.string (⟨#[]⟩ : ByteArray), .int .i64 0, .slice none 0 0, .slice none 0 0, .bool false] 50 (0, 0)) (pk BKz4) hb); have n6_ := am (bkB (pk BKz14) hb); have n7_ := am (below_step (sC_ HB) hb); have n8_ := am (hbox); have n9_ := ge_ hg (sC_ HB); have n10_ := ge_ hg (sC_ HB); have n11_ := nl_ hg BKz1; have n12_ := ng_ hg BKz1; have n13_ := nl_ hg BKz2; have n14_ := ng_ hg BKz2; have n15_ := nl_ hg BKz3; have n16_ := ng_ hg BKz3; have n17_ := am ((by rw [hg]; exact Nat.ne_of_lt (blk_lt (g := gbz4) (o := .cells #[.string (⟨#[]⟩ : ByteArray), .int .i64 0, .slice none 0 0, .slice none 0 0, .bool false] 50 (0, 0)) (pk BKz4)) : gbz4 ≠ gbz20)); have n18_ := am ((by rw [hg]; exact Nat.ne_of_gt (blk_lt (g := gbz4) (o := .cells #[.string (⟨#[]⟩ : ByteArray), .int .i64 0, .slice none 0 0, .slice none 0 0, .bool false] 50 (0, 0)) (pk BKz4)) : gbz20 ≠ gbz4)); have n19_ := nl_ hg BKz14; have n20_ := ng_ hg BKz14; clear HO_z15002; clear HO_z15003; clear BKz1; clear BKz2; clear BKz3; clear BKz4; clear BKz14; clear HB; have HO_z15002 := n0_; have HO_z15003 := n1_; have BKz1 := n2_; have BKz2 := n3_; have BKz3 := n4_; have BKz4 := n5_; have BKz14 := n6_; have HB := n7_; have BKz20 := n8_; have GWz20 := n9_; have GEz20 := n10_; have NBz1_z20 := n11_; have NBz20_z1 := n12_; have NBz2_z20 := n13_; have NBz20_z2 := n14_; have NBz3_z20 := n15_; have NBz20_z3 := n16_; have NBz4_z20 := n17_; have NBz20_z4 := n18_; have NBz14_z20 := n19_; have NBz20_z14 := n20_; clear n0_ n1_ n2_ n3_ n4_ n5_ n6_ n7_ n8_ n9_ n10_ n11_ n12_ n13_ n14_ n15_ n16_ n17_ n18_ n19_ n20_; clear hb hbox hg; have hnb118 := NBz20_z1.out; have hnc118 := NBz1_z20.out; have hnb119 := NBz20_z2.out; have hnc119 := NBz2_z20.out; have hnb120 := NBz20_z3.out; have hnc120 := NBz3_z20.out; have hnb121 := NBz20_z4.out; have hnc121 := NBz4_z20.out; have hnb122 := NBz20_z14.out; have hnc122 := NBz14_z20.out; obtain ⟨hcz123_0, hcz123_1, hcz123_2⟩ := bc3 BKz20; obtain ⟨hfz123_0, hfz123_1, hfz123_2⟩ := bf3 BKz20; obtain ⟨hcz124_0, hcz124_1, hcz124_2, hcz124_3, hcz124_4⟩ := bc5 BKz1; obtain ⟨hfz124_0, hfz124_1, hfz124_2, hfz124_3, hfz124_4⟩ := bf5 BKz1) | ((with_reducible refine gate_callee (f := 21) rfl ?_); refine goesL_ (some 50) rfl rfl Try.func21 (by kernel_rfl) rfl #[.agg #[.string a0_0, .int .i64 a0_1], .int .i64 40] rfl (by (try simp only [List.map_toArray, List.map_cons, List.map_nil]) <;> rfl) ?_; (with_reducible refine (tape_Take.calls kj4 a0_0 a0_1 40 tz21 tz22 tz23 tz24 _ A106.out).mono ?_); rintro e w125 ⟨rfl, hb⟩; refine ⟨_, rfl, ?_⟩; have n0_ := am (Kd.R_below (by (with_reducible repeat first | apply ra | apply rn | apply rd); exact (rs3 HO_z15002 BKz20 (by decide))) hb); have n1_ := am (Kd.R_below (by (with_reducible repeat first | apply ra | apply rn | apply rd); exact (Kd.R_mono (rf3 (Kd.R_mono HO_z15003.out (fun k_ hk => (⟨hk, hk.2⟩ : _ ∧ k_ ≠ gbz20))) (fun _ hk => hk.2)) (fun _ h_ => h_.1))) hb); have n2_ := am (bkB (g := gbz1) (o := .cells #[.string a0_0, .int .i64 a0_1, .slice A0_2 l0_2.length c0_2, .slice A0_3 l0_3.length c0_3, .bool a0_4] 50 (0, 0)) (by (with_reducible repeat (first | refine blk_drewN ?_ _ | refine bkD ?_ | refine bkA ?_ _)); refine blk_far ?_ NBz1_z20.out _; refine blk_far ?_ NBz1_z20.out _; refine blk_far ?_ NBz1_z20.out _; exact pk BKz1) hb); have n3_ := am (bkB (g := gbz2) (o := .cells #[.string a1] 9 (0, 0)) (by (with_reducible repeat (first | refine blk_drewN ?_ _ | refine bkD ?_ | refine bkA ?_ _)); refine blk_far ?_ NBz2_z20.out _; refine blk_far ?_ NBz2_z20.out _; refine blk_far ?_ NBz2_z20.out _; exact pk BKz2) hb); have n4_ := am (bkB (g := gbz3) (o := .cells #[.string a2] 9 (0, 0)) (by (with_reducible repeat (first | refine blk_drewN ?_ _ | refine bkD ?_ | refine bkA ?_ _)); refine blk_far ?_ NBz3_z20.out _; refine blk_far ?_ NBz3_z20.out _; refine blk_far ?_ NBz3_z20.out _; exact pk BKz3) hb); have n5_ := am (bkB (g := gbz4) (o := .cells #[.string (⟨#[]⟩ : ByteArray), .int .i64 0, .slice none 0 0, .slice none 0 0, .bool false] 50 (0, 0)) (by (with_reducible repeat (first | refine blk_drewN ?_ _ | refine bkD ?_ | refine bkA ?_ _)); refine blk_far ?_ NBz4_z20.out _; refine blk_far ?_ NBz4_z20.out _; refine blk_far ?_ NBz4_z20.out _; exact pk BKz4) hb); have n6_ := am (bkB (g := gbz14) (o := .cells #[.string tz5, .int .i64 tz6, .slice Ao21 tz7.length co21, .slice Ao22 tz10.length co22, .bool tz13] 50 (0, 0)) (by (with_reducible repeat (first | refine blk_drewN ?_ _ | refine bkD ?_ | refine bkA ?_ _)); refine blk_far ?_ NBz14_z20.out _; refine blk_far ?_ NBz14_z20.out _; refine blk_far ?_ NBz14_z20.out _; exact pk BKz14) hb); have n7_ := am (bkB (g := gbz20) (o := .cells #[.string tz16, .string tz17, .string tz18] 74 (0, 0)) (by (with_reducible repeat (first | refine blk_drewN ?_ _ | refine bkD ?_ | refine bkA ?_ _)); apply bp3; exact pk BKz20) hb); have n8_ := am (below_step (sC_ HB) hb); clear HO_z15002; clear HO_z15003; clear BKz1; clear BKz2; clear BKz3; clear BKz4; clear BKz14; clear BKz20; clear HB; have HO_z15002 := n0_; have HO_z15003 := n1_; have BKz1 := n2_; have BKz2 := n3_; have BKz3 := n4_; have BKz4 := n5_; have BKz14 := n6_; have BKz20 := n7_; have HB := n8_; clear n0_ n1_ n2_ n3_ n4_ n5_ n6_ n7_ n8_; (try clear hi)) | ((with_reducible refine gate_dst (N := 13) rfl ?_); (try (refine gate_guard (by rfl) ?_; dsimp only)); refine box_event ?hg (N := 13) ?hd (cs := #[.string (⟨#[]⟩ : ByteArray), .int .i64 0]) (t := 23) ?hr ?_; (case hd => rfl); (case hg => rfl); (case hr => first | (go_simp; done) | (go_simp; rfl)); intro gbz25 hg w126 hbox hb; have n0_ := am (Kd.R_below (pr HO_z15002) hb); have n1_ := am (Kd.R_below (pr HO_z15003) hb); have n2_ := am (bkB (pk BKz1) hb); have n3_ := am (bkB (pk BKz2) hb); have n4_ := am (bkB (pk BKz3) hb); have n5_ := am (bkB (g := gbz4) (o := .cells #[.string (⟨#[]⟩ : ByteArray), .int .i64 0, .slice none 0 0, .slice none 0 0, .bool false] 50 (0, 0)) (pk BKz4) hb); have n6_ := am (bkB (pk BKz14) hb); have n7_ := am (bkB (pk BKz20) hb); have n8_ := am (below_step (sC_ HB) hb); have n9_ := am (hbox); have n10_ := ge_ hg (sC_ HB); have n11_ := ge_ hg (sC_ HB); have n12_ := nl_ hg BKz1; have n13_ := ng_ hg BKz1; have n14_ := nl_ hg BKz2; have n15_ := ng_ hg BKz2; have n16_ := nl_ hg BKz3; have n17_ := ng_ hg BKz3; have n18_ := am ((by rw [hg]; exact Nat.ne_of_lt (blk_lt (g := gbz4) (o := .cells #[.string (⟨#[]⟩ : ByteArray), .int .i64 0, .slice none 0 0, .slice none 0 0, .bool false] 50 (0, 0)) (pk BKz4)) : gbz4 ≠ gbz25)); have n19_ := am ((by rw [hg]; exact Nat.ne_of_gt (blk_lt (g := gbz4) (o := .cells #[.string (⟨#[]⟩ : ByteArray), .int .i64 0, .slice none 0 0, .slice none 0 0, .bool false] 50 (0, 0)) (pk BKz4)) : gbz25 ≠ gbz4)); have n20_ := nl_ hg BKz14; have n21_ := ng_ hg BKz14; have n22_ := nl_ hg BKz20; have n23_ := ng_ hg BKz20; clear HO_z15002; clear HO_z15003; clear BKz1; clear BKz2; clear BKz3; clear BKz4; clear BKz14; clear BKz20; clear HB; have HO_z15002 := n0_; have HO_z15003 := n1_; have BKz1 := n2_; have BKz2 := n3_; have BKz3 := n4_; have BKz4 := n5_; have BKz14 := n6_; have BKz20 := n7_; have HB := n8_; have BKz25 := n9_; have GWz25 := n10_; have GEz25 := n11_; have NBz1_z25 := n12_; have NBz25_z1 := n13_; have NBz2_z25 := n14_; have NBz25_z2 := n15_; have NBz3_z25 := n16_; have NBz25_z3 := n17_; have NBz4_z25 := n18_; have NBz25_z4 := n19_; have NBz14_z25 := n20_; have NBz25_z14 := n21_; have NBz20_z25 := n22_; have NBz25_z20 := n23_; clear n0_ n1_ n2_ n3_ n4_ n5_ n6_ n7_ n8_ n9_ n10_ n11_ n12_ n13_ n14_ n15_ n16_ n17_ n18_ n19_ n20_ n21_ n22_ n23_; clear hb hbox hg; have hnb127 := NBz25_z1.out; have hnc127 := NBz1_z25.out; have hnb128 := NBz25_z2.out; have hnc128 := NBz2_z25.out; have hnb129 := NBz25_z3.out; have hnc129 := NBz3_z25.out; have hnb130 := NBz25_z4.out; have hnc130 := NBz4_z25.out; have hnb131 := NBz25_z14.out; have hnc131 := NBz14_z25.out; have hnb132 := NBz25_z20.out; have hnc132 := NBz20_z25.out; obtain ⟨hcz133_0, hcz133_1⟩ := bc2 BKz25; obtain ⟨hfz133_0, hfz133_1⟩ := bf2 BKz25; obtain ⟨hcz134_0, hcz134_1, hcz134_2, hcz134_3, hcz134_4⟩ := bc5 BKz1; obtain ⟨hfz134_0, hfz134_1, hfz134_2, hfz134_3, hfz134_4⟩ := bf5 BKz1) | ((with_reducible refine gate_callee (f := 49) rfl ?_); refine goesL_ (some 59) rfl rfl Try.func49 (by kernel_rfl) rfl #[.agg #[.string a0_0, .int .i64 a0_1, .slice A0_2 l0_2.length c0_2, .slice A0_3 l0_3.length c0_3, .bool a0_4]] rfl (by (try simp only [List.map_toArray, List.map_cons, List.map_nil]) <;> rfl) ?_; (with_reducible refine (ideal_own.calls a0_0 a0_1 _ _ l0_2 _ _ l0_3 a0_4 tz26 tz27 tz28 tz31 tz34 _ ?side1 ?side2 ?side3 ?side4 A108.out).mono ?_); (case side1 => exact Kd.C_below HR0_2.out (sC_ HB)); (case side2 => exact HC0_2.out); (case side3 => exact Kd.C_below HR0_3.out (sC_ HB)); (case side4 => exact HC0_3.out); rintro e w135 ⟨vz29, vz32, rfl, ho0, ho1, hb⟩; refine ⟨_, rfl, ?_⟩; have n0_ := am (Kd.R_elder' (by (with_reducible repeat first | apply ra | apply rn | apply rd); exact (rs2 HO_z15002 BKz25 (by decide))) (Kd.R_base ho0) hb); have n1_ := am (Kd.R_elder' (by (with_reducible repeat first | apply ra | apply rn | apply rd); exact (rs2 HO_z15003 BKz25 (by decide))) (Kd.R_base ho1) hb); have n2_ := am (Kd.R_lower (Kd.R_new' ho0 (Kd.R_lt (by (with_reducible repeat first | apply ra | apply rn | apply rd); exact (rs2 HO_z15002 BKz25 (by decide))))) (below_size (sC_ HB))); have n3_ := am (Kd.R_lower (Kd.R_newB (Kd.R_new' ho1 (Kd.R_lt (by (with_reducible repeat first | apply ra | apply rn | apply rd); exact (rs2 HO_z15003 BKz25 (by decide))))) (g := gbz20) (o := .cells #[.string tz16, .string tz17, .string tz18] 74 (0, 0)) (by (with_reducible repeat (first | refine blk_drewN ?_ _ | refine bkD ?_ | refine bkA ?_ _)); refine blk_far ?_ NBz20_z25.out _; refine blk_far ?_ NBz20_z25.out _; exact pk BKz20)) (below_size (sC_ HB))); have n4_ := am (bkB (g := gbz1) (o := .cells #[.string a0_0, .int .i64 a0_1, .slice A0_2 l0_2.length c0_2, .slice A0_3 l0_3.length c0_3, .bool a0_4] 50 (0, 0)) (by (with_reducible repeat (first | refine blk_drewN ?_ _ | refine bkD ?_ | refine bkA ?_ _)); refine blk_far ?_ NBz1_z25.out _; refine blk_far ?_ NBz1_z25.out _; exact pk BKz1) hb); have n5_ := am (bkB (g := gbz2) (o := .cells #[.string a1] 9 (0, 0)) (by (with_reducible repeat (first | refine blk_drewN ?_ _ | refine bkD ?_ | refine bkA ?_ _)); refine blk_far ?_ NBz2_z25.out _; refine blk_far ?_ NBz2_z25.out _; exact pk BKz2) hb); have n6_ := am (bkB (g := gbz3) (o := .cells #[.string a2] 9 (0, 0)) (by (with_reducible repeat (first | refine blk_drewN ?_ _ | refine bkD ?_ | refine bkA ?_ _)); refine blk_far ?_ NBz3_z25.out _; refine blk_far ?_ NBz3_z25.out _; exact pk BKz3) hb); have n7_ := am (bkB (g := gbz4) (o := .cells #[.string (⟨#[]⟩ : ByteArray), .int .i64 0, .slice none 0 0, .slice none 0 0, .bool false] 50 (0, 0)) (by (with_reducible repeat (first | refine blk_drewN ?_ _ | refine bkD ?_ | refine bkA ?_ _)); refine blk_far ?_ NBz4_z25.out _; refine blk_far ?_ NBz4_z25.out _; exact pk BKz4) hb); have n8_ := am (bkB (g := gbz14) (o := .cells #[.string tz5, .int .i64 tz6, .slice Ao21 tz7.length co21, .slice Ao22 tz10.length co22, .bool tz13] 50 (0, 0)) (by (with_reducible repeat (first | refine blk_drewN ?_ _ | refine bkD ?_ | refine bkA ?_ _)); refine blk_far ?_ NBz14_z25.out _; refine blk_far ?_ NBz14_z25.out _; exact pk BKz14) hb); have n9_ := am (bkB (g := gbz20) (o := .cells #[.string tz16, .string tz17, .string tz18] 74 (0, 0)) (by (with_reducible repeat (first | refine blk_drewN ?_ _ | refine bkD ?_ | refine bkA ?_ _)); refine blk_far ?_ NBz20_z25.out _; refine blk_far ?_ NBz20_z25.out _; exact pk BKz20) hb); have n10_ := am (bkB (g := gbz25) (o := .cells #[.string tz22, .int .i64 tz23] 23 (0, 0)) (by (with_reducible repeat (first | refine blk_drewN ?_ _ | refine bkD ?_ | refine bkA ?_ _)); apply bp2; exact pk BKz25) hb); have n11_ := am (below_step (sC_ HB) hb); clear HO_z15002; clear HO_z15003; clear BKz1; clear BKz2; clear BKz3; clear BKz4; clear BKz14; clear BKz20; clear BKz25; clear HB; have HO_z15002 := n0_; have HO_z15003 := n1_; have HOz30 := n2_; have HOz33 := n3_; have BKz1 := n4_; have BKz2 := n5_; have BKz3 := n6_; have BKz4 := n7_; have BKz14 := n8_; have BKz20 := n9_; have BKz25 := n10_; have HB := n11_; clear n0_ n1_ n2_ n3_ n4_ n5_ n6_ n7_ n8_ n9_ n10_ n11_; obtain ⟨hcz136_0, hcz136_1, hcz136_2, hcz136_3, hcz136_4⟩ := bc5 BKz1; obtain ⟨hfz136_0, hfz136_1, hfz136_2, hfz136_3, hfz136_4⟩ := bf5 BKz1; obtain ⟨Ao137, co137, eo137⟩ := Kd.R_slice HOz30.out; subst eo137; obtain ⟨Ao138, co138, eo138⟩ := Kd.R_slice HOz33.out; subst eo138))
 have n0_ : Aside0 (Kd.R k72 72 (((((w135.setCell ⟨gbz1, 0, none⟩ (.string tz26)).setCell ⟨gbz1, 1, none⟩ (.int .i64 tz27)).setCell ⟨gbz1, 2, none⟩ (.slice Ao137 tz28.length co137)).setCell ⟨gbz1, 3, none⟩ (.slice Ao138 tz31.length co138)).setCell ⟨gbz1, 4, none⟩ (.bool tz34)) w.heap.size (fun k_ => some k_ ≠ (.slice Ao137 tz28.length co137 : Value).ownBlock) (.slice Ao21 tz7.length co21) tz7) := ⟨by (with_reducible repeat first | apply ra | apply rn | apply rd); exact Kd.R_mono (rf5 (Kd.R_types HO_z15002.out BKz1.out (by decide)) (fun _ hk => hk.2)) (fun _ hk => hk.1.2)⟩
 have n1_ : Aside0 (Kd.R k74 74 (((((w135.setCell ⟨gbz1, 0, none⟩ (.string tz26)).setCell ⟨gbz1, 1, none⟩ (.int .i64 tz27)).setCell ⟨gbz1, 2, none⟩ (.slice Ao137 tz28.length co137)).setCell ⟨gbz1, 3, none⟩ (.slice Ao138 tz31.length co138)).setCell ⟨gbz1, 4, none⟩ (.bool tz34)) w.heap.size (fun k_ => some k_ ≠ (.slice Ao138 tz31.length co138 : Value).ownBlock ∧ k_ ≠ gbz20) (.slice Ao22 tz10.length co22) tz10) := ⟨by (with_reducible repeat first | apply ra | apply rn | apply rd); exact Kd.R_mono (rf5 (Kd.R_types HO_z15003.out BKz1.out (by decide)) (fun _ hk => hk.2)) (fun _ hk => ⟨hk.1.2, hk.1.1.2⟩)⟩
 have n2_ : Aside0 (Kd.R k72 72 (((((w135.setCell ⟨gbz1, 0, none⟩ (.string tz26)).setCell ⟨gbz1, 1, none⟩ (.int .i64 tz27)).setCell ⟨gbz1, 2, none⟩ (.slice Ao137 tz28.length co137)).setCell ⟨gbz1, 3, none⟩ (.slice Ao138 tz31.length co138)).setCell ⟨gbz1, 4, none⟩ (.bool tz34)) w.heap.size (fun k_ => some k_ ≠ (.slice Ao21 tz7.length co21 : Value).ownBlock) (.slice Ao137 tz28.length co137) tz28) := ⟨by (with_reducible repeat first | apply ra | apply rn | apply rd); exact Kd.R_mono (rf5 (Kd.R_types HOz30.out BKz1.out (by decide)) (fun _ hk => hk.2)) (fun _ hk => hk.1.2)⟩
 have n3_ : Aside0 (Kd.R k74 74 (((((w135.setCell ⟨gbz1, 0, none⟩ (.string tz26)).setCell ⟨gbz1, 1, none⟩ (.int .i64 tz27)).setCell ⟨gbz1, 2, none⟩ (.slice Ao137 tz28.length co137)).setCell ⟨gbz1, 3, none⟩ (.slice Ao138 tz31.length co138)).setCell ⟨gbz1, 4, none⟩ (.bool tz34)) w.heap.size (fun k_ => some k_ ≠ (.slice Ao22 tz10.length co22 : Value).ownBlock ∧ k_ ≠ gbz20) (.slice Ao138 tz31.length co138) tz31) := ⟨by (with_reducible repeat first | apply ra | apply rn | apply rd); exact Kd.R_mono (rf5 (Kd.R_types HOz33.out BKz1.out (by decide)) (fun _ hk => hk.2)) (fun _ hk => ⟨hk.1.1.2, hk.1.2⟩)⟩
 have n4_ : Aside0 ((((((w135.setCell ⟨gbz1, 0, none⟩ (.string tz26)).setCell ⟨gbz1, 1, none⟩ (.int .i64 tz27)).setCell ⟨gbz1, 2, none⟩ (.slice Ao137 tz28.length co137)).setCell ⟨gbz1, 3, none⟩ (.slice Ao138 tz31.length co138)).setCell ⟨gbz1, 4, none⟩ (.bool tz34)).heap[gbz1]? = some (.cells #[.string tz26, .int .i64 tz27, .slice Ao137 tz28.length co137, .slice Ao138 tz31.length co138, .bool tz34] 50 (0, 0))) := ⟨by (with_reducible repeat (first | refine blk_drewN ?_ _ | refine bkD ?_ | refine bkA ?_ _)); apply bp5; (with_reducible repeat (first | refine blk_drewN ?_ _ | refine bkD ?_ | refine bkA ?_ _)); exact BKz1.out⟩
 have n5_ : Aside0 ((((((w135.setCell ⟨gbz1, 0, none⟩ (.string tz26)).setCell ⟨gbz1, 1, none⟩ (.int .i64 tz27)).setCell ⟨gbz1, 2, none⟩ (.slice Ao137 tz28.length co137)).setCell ⟨gbz1, 3, none⟩ (.slice Ao138 tz31.length co138)).setCell ⟨gbz1, 4, none⟩ (.bool tz34)).heap[gbz2]? = some (.cells #[.string a1] 9 (0, 0))) := ⟨by (with_reducible repeat (first | refine blk_drewN ?_ _ | refine bkD ?_ | refine bkA ?_ _)); refine br5 ?_ NBz2_z1; (with_reducible repeat (first | refine blk_drewN ?_ _ | refine bkD ?_ | refine bkA ?_ _)); exact BKz2.out⟩
 have n6_ : Aside0 ((((((w135.setCell ⟨gbz1, 0, none⟩ (.string tz26)).setCell ⟨gbz1, 1, none⟩ (.int .i64 tz27)).setCell ⟨gbz1, 2, none⟩ (.slice Ao137 tz28.length co137)).setCell ⟨gbz1, 3, none⟩ (.slice Ao138 tz31.length co138)).setCell ⟨gbz1, 4, none⟩ (.bool tz34)).heap[gbz3]? = some (.cells #[.string a2] 9 (0, 0))) := ⟨by (with_reducible repeat (first | refine blk_drewN ?_ _ | refine bkD ?_ | refine bkA ?_ _)); refine br5 ?_ NBz3_z1; (with_reducible repeat (first | refine blk_drewN ?_ _ | refine bkD ?_ | refine bkA ?_ _)); exact BKz3.out⟩
 have n7_ : Aside0 ((((((w135.setCell ⟨gbz1, 0, none⟩ (.string tz26)).setCell ⟨gbz1, 1, none⟩ (.int .i64 tz27)).setCell ⟨gbz1, 2, none⟩ (.slice Ao137 tz28.length co137)).setCell ⟨gbz1, 3, none⟩ (.slice Ao138 tz31.length co138)).setCell ⟨gbz1, 4, none⟩ (.bool tz34)).heap[gbz4]? = some (.cells #[.string (⟨#[]⟩ : ByteArray), .int .i64 0, .slice none 0 0, .slice none 0 0, .bool false] 50 (0, 0))) := ⟨by (with_reducible repeat (first | refine blk_drewN ?_ _ | refine bkD ?_ | refine bkA ?_ _)); refine br5 ?_ NBz4_z1; (with_reducible repeat (first | refine blk_drewN ?_ _ | refine bkD ?_ | refine bkA ?_ _)); exact BKz4.out⟩
 have n8_ : Aside0 ((((((w135.setCell ⟨gbz1, 0, none⟩ (.string tz26)).setCell ⟨gbz1, 1, none⟩ (.int .i64 tz27)).setCell ⟨gbz1, 2, none⟩ (.slice Ao137 tz28.length co137)).setCell ⟨gbz1, 3, none⟩ (.slice Ao138 tz31.length co138)).setCell ⟨gbz1, 4, none⟩ (.bool tz34)).heap[gbz14]? = some (.cells #[.string tz5, .int .i64 tz6, .slice Ao21 tz7.length co21, .slice Ao22 tz10.length co22, .bool tz13] 50 (0, 0))) := ⟨by (with_reducible repeat (first | refine blk_drewN ?_ _ | refine bkD ?_ | refine bkA ?_ _)); refine br5 ?_ NBz14_z1; (with_reducible repeat (first | refine blk_drewN ?_ _ | refine bkD ?_ | refine bkA ?_ _)); exact BKz14.out⟩
 have n9_ : Aside0 ((((((w135.setCell ⟨gbz1, 0, none⟩ (.string tz26)).setCell ⟨gbz1, 1, none⟩ (.int .i64 tz27)).setCell ⟨gbz1, 2, none⟩ (.slice Ao137 tz28.length co137)).setCell ⟨gbz1, 3, none⟩ (.slice Ao138 tz31.length co138)).setCell ⟨gbz1, 4, none⟩ (.bool tz34)).heap[gbz20]? = some (.cells #[.string tz16, .string tz17, .string tz18] 74 (0, 0))) := ⟨by (with_reducible repeat (first | refine blk_drewN ?_ _ | refine bkD ?_ | refine bkA ?_ _)); refine br5 ?_ NBz20_z1; (with_reducible repeat (first | refine blk_drewN ?_ _ | refine bkD ?_ | refine bkA ?_ _)); exact BKz20.out⟩
 have n10_ : Aside0 ((((((w135.setCell ⟨gbz1, 0, none⟩ (.string tz26)).setCell ⟨gbz1, 1, none⟩ (.int .i64 tz27)).setCell ⟨gbz1, 2, none⟩ (.slice Ao137 tz28.length co137)).setCell ⟨gbz1, 3, none⟩ (.slice Ao138 tz31.length co138)).setCell ⟨gbz1, 4, none⟩ (.bool tz34)).heap[gbz25]? = some (.cells #[.string tz22, .int .i64 tz23] 23 (0, 0))) := ⟨by (with_reducible repeat (first | refine blk_drewN ?_ _ | refine bkD ?_ | refine bkA ?_ _)); refine br5 ?_ NBz25_z1; (with_reducible repeat (first | refine blk_drewN ?_ _ | refine bkD ?_ | refine bkA ?_ _)); exact BKz25.out⟩
 have n11_ : Aside0 (Below w.heap.size w (((((w135.setCell ⟨gbz1, 0, none⟩ (.string tz26)).setCell ⟨gbz1, 1, none⟩ (.int .i64 tz27)).setCell ⟨gbz1, 2, none⟩ (.slice Ao137 tz28.length co137)).setCell ⟨gbz1, 3, none⟩ (.slice Ao138 tz31.length co138)).setCell ⟨gbz1, 4, none⟩ (.bool tz34))) := (sB_ HB)
 (try clear HO_z15002); (try clear HO_z15003); (try clear HOz30); (try clear HOz33); (try clear BKz1); (try clear BKz2); (try clear BKz3); (try clear BKz4); (try clear BKz14); (try clear BKz20); (try clear BKz25); (try clear HB)
 generalize (((((w135.setCell ⟨gbz1, 0, none⟩ (.string tz26)).setCell ⟨gbz1, 1, none⟩ (.int .i64 tz27)).setCell ⟨gbz1, 2, none⟩ (.slice Ao137 tz28.length co137)).setCell ⟨gbz1, 3, none⟩ (.slice Ao138 tz31.length co138)).setCell ⟨gbz1, 4, none⟩ (.bool tz34)) = w139 at n0_ n1_ n2_ n3_ n4_ n5_ n6_ n7_ n8_ n9_ n10_ n11_ ⊢
 have HO_z15002 := n0_; have HO_z15003 := n1_; have HOz30 := n2_; have HOz33 := n3_; have BKz1 := n4_; have BKz2 := n5_; have BKz3 := n6_; have BKz4 := n7_; have BKz14 := n8_; have BKz20 := n9_; have BKz25 := n10_; have HB := n11_; clear n0_ n1_ n2_ n3_ n4_ n5_ n6_ n7_ n8_ n9_ n10_ n11_
 have n0_ := am (Kd.R_drew HO_z15002.out)
 have n1_ := am (Kd.R_drew HO_z15003.out)
 have n2_ := am (Kd.R_drew HOz30.out)
 have n3_ := am (Kd.R_drew HOz33.out)
 have n4_ := am (bkD BKz1.out)
 have n5_ := am (bkD BKz2.out)
 have n6_ := am (bkD BKz3.out)
 have n7_ := am (bkD BKz4.out)
 have n8_ := am (bkD BKz14.out)
 have n9_ := am (bkD BKz20.out)
 have n10_ := am (bkD BKz25.out)
 have n11_ := am (below_drew1 HB.out)
 clear HO_z15002 HO_z15003 HOz30 HOz33 BKz1 BKz2 BKz3 BKz4 BKz14 BKz20 BKz25 HB; have HO_z15002 := n0_; have HO_z15003 := n1_; have HOz30 := n2_; have HOz33 := n3_; have BKz1 := n4_; have BKz2 := n5_; have BKz3 := n6_; have BKz4 := n7_; have BKz14 := n8_; have BKz20 := n9_; have BKz25 := n10_; have HB := n11_; clear n0_ n1_ n2_ n3_ n4_ n5_ n6_ n7_ n8_ n9_ n10_ n11_
 refine start_ (n := 13) (S := fun w' => w'.cell? ⟨gbz25, 0, none⟩ = some (.string tz22) ∧ w'.cell? ⟨gbz25, 1, none⟩ = some (.int .i64 tz23) ∧ w'.cell? ⟨gbz1, 0, none⟩ = some (.string tz26) ∧ w'.cell? ⟨gbz1, 1, none⟩ = some (.int .i64 tz27) ∧ w'.cell? ⟨gbz1, 2, none⟩ = some (.slice Ao137 tz28.length co137) ∧ w'.cell? ⟨gbz1, 3, none⟩ = some (.slice Ao138 tz31.length co138) ∧ w'.cell? ⟨gbz1, 4, none⟩ = some (.bool tz34) ∧ w'.cell? ⟨gbz2, 0, none⟩ = some (.string a1) ∧ w'.cell? ⟨gbz3, 0, none⟩ = some (.string a2)) (ds := [10, 12]) #[false, false, false, false, false, false, false, false, false, false, false, false, false] (by kernel_rfl) rfl rfl ⟨(blk_cell BKz25.out 0).trans rfl, (blk_cell BKz25.out 1).trans rfl, (blk_cell BKz1.out 0).trans rfl, (blk_cell BKz1.out 1).trans rfl, (blk_cell BKz1.out 2).trans rfl, (blk_cell BKz1.out 3).trans rfl, (blk_cell BKz1.out 4).trans rfl, (blk_cell BKz2.out 0).trans rfl, (blk_cell BKz3.out 0).trans rfl⟩ (fun hHeld => ?_); refine with_tabW ideal_Seal.tab13 ideal_Seal.bits13 (fun HT_ HW_ => ?_)
 generalize w139.drew = w140 at HO_z15002 HO_z15003 HOz30 HOz33 BKz1 BKz2 BKz3 BKz4 BKz14 BKz20 BKz25 HB hHeld ⊢
 refine pv_ 1 (some 61) HT_ ?_
 refine pv_ 5 (some 65) HT_ ?_
 refine tk_ 0 (some 60) HT_ HW_ rfl rfl (.inl ⟨by rfl, by rintro w' ⟨s0, s1, s2, s3, s4, s5, s6, s7, s8⟩; go_simp; with_reducible rfl⟩) hHeld (by simp only [Act.put, sa_, s0_, s1_, i64_w, i32_w]; rfl) ?_
 refine tk_ 2 (some 62) HT_ HW_ rfl rfl (.inl ⟨by rfl, by rintro w' ⟨s0, s1, s2, s3, s4, s5, s6, s7, s8⟩; go_simp; with_reducible rfl⟩) hHeld (by simp only [Act.put, sa_, s0_, s1_, i64_w, i32_w]; rfl) ?_
 refine pv_ 9 (some 69) HT_ ?_
 refine tk_ 3 (some 63) HT_ HW_ rfl rfl (.inl ⟨by rfl, by rintro w' ⟨s0, s1, s2, s3, s4, s5, s6, s7, s8⟩; go_simp; with_reducible rfl⟩) hHeld (by simp only [Act.put, sa_, s0_, s1_, i64_w, i32_w]; rfl) ?_
 refine tk_ 4 (some 64) HT_ HW_ rfl rfl (.inl ⟨by rfl, by rintro w' ⟨s0, s1, s2, s3, s4, s5, s6, s7, s8⟩; go_simp; with_reducible rfl⟩) hHeld (by simp only [Act.put, sa_, s0_, s1_, i64_w, i32_w]; rfl) ?_
 refine pv_ 6 (some 66) HT_ ?_
 refine on_ 7 (some 67) HT_ rfl rfl (fun K hK => ?_)
 refine value_ (w1 := ?_) (v := ?_) (by rfl) rfl ?_ ?_
 rotate_left 2
 ·go_simp
  constructor
  rotate_left
  ·rfl
  rfl
 refine hK.out _ _ ⟨(blk_cell (bkA BKz25.out _) 0).trans rfl, (blk_cell (bkA BKz25.out _) 1).trans rfl, (blk_cell (bkA BKz1.out _) 0).trans rfl, (blk_cell (bkA BKz1.out _) 1).trans rfl, (blk_cell (bkA BKz1.out _) 2).trans rfl, (blk_cell (bkA BKz1.out _) 3).trans rfl, (blk_cell (bkA BKz1.out _) 4).trans rfl, (blk_cell (bkA BKz2.out _) 0).trans rfl, (blk_cell (bkA BKz3.out _) 0).trans rfl⟩ (fun hHeld => ?_)
 clear hK K
 refine norm_ (by show Act.put _ (some 67) _ = _; simp only [Act.put, sa_, s0_, s1_, i64_w, i32_w]; rfl) ?_
 refine on_ 8 (some 68) HT_ rfl rfl (fun K hK => ?_)
 refine Kd.R_append_step k74 (w0 := w) w.heap.size (by rfl) (.tmp 62) (.tmp 67) 48 74 (.agg #[(.string ⟨#[]⟩), (.string ⟨#[]⟩), (.string ⟨#[]⟩)]) 48 rfl Try.underlying48 info74 rfl (by decide) (by omega) (.slice Ao138 tz31.length co138) tz31 (⟨a1, a2, tz21⟩ : S74) [.string a1, .string a2, .string tz21] (fun k_ => some k_ ≠ (.slice Ao22 tz10.length co22 : Value).ownBlock ∧ k_ ≠ gbz20) (fun _ => False) rfl rfl ?aP (fun _ hk => hk.elim) ?aF ?aO ?aB ?aS ?aL ?_
 (case aP => exact k74_mkM _ _ _ (⟨a1, a2, tz21⟩ : S74))
 (case aB => exact (sC_ HB))
 (case aF => exact (fun k_ hk => ⟨Kd.fresh' (Kd.R_lt (pr HO_z15003)) k_ hk, Kd.freshB (pk BKz20) k_ hk⟩))
 (case aO => exact (pr HOz33))
 (case aS => exact (below_size (sC_ HB)))
 (case aL => have := LMc109.out; omega)
 intro vz36 w141 ho hb hg hat
 rw [← Nyz35.out] at ho
 have n0_ := am (Kd.R_over' (pr HO_z15002) (Kd.R_typed (pr HOz33)) (by decide) hg)
 have n1_ := am (Kd.R_after (ok := (fun k_ => k_ ≠ gbz20)) (pm HO_z15003 (fun _ hk => ⟨hk.2, hk.1⟩)) hg hat)
 have n2_ := am (blk_grown (pk BKz1) hg (Kd.R_ne HOz33.out BKz1.out (by decide)))
 have n3_ := am (blk_grown (pk BKz2) hg (Kd.R_ne HOz33.out BKz2.out (by decide)))
 have n4_ := am (blk_grown (pk BKz3) hg (Kd.R_ne HOz33.out BKz3.out (by decide)))
 have n5_ := am (blk_grown (g := gbz4) (o := .cells #[.string (⟨#[]⟩ : ByteArray), .int .i64 0, .slice none 0 0, .slice none 0 0, .bool false] 50 (0, 0)) (pk BKz4) hg (Kd.R_ne HOz33.out BKz4.out (by decide)))
 have n6_ := am (blk_grown (pk BKz14) hg (Kd.R_ne HOz33.out BKz14.out (by decide)))
 have n7_ := am (blk_grown (pk BKz20) hg (Kd.R_away HOz33.out (fun _ hk => hk.2)))
 have n8_ := am (blk_grown (pk BKz25) hg (Kd.R_ne HOz33.out BKz25.out (by decide)))
 have n9_ := am (Kd.R_over' (pr HOz30) (Kd.R_typed (pr HOz33)) (by decide) hg)
 have n10_ := am (hb)
 have n11_ := am (ho)
 clear HO_z15002 HO_z15003 BKz1 BKz2 BKz3 BKz4 BKz14 BKz20 BKz25 HOz30 HB HOz33; have HO_z15002 := n0_; have HO_z15003 := n1_; have BKz1 := n2_; have BKz2 := n3_; have BKz3 := n4_; have BKz4 := n5_; have BKz14 := n6_; have BKz20 := n7_; have BKz25 := n8_; have HOz30 := n9_; have HB := n10_; have HOz37 := n11_; clear n0_ n1_ n2_ n3_ n4_ n5_ n6_ n7_ n8_ n9_ n10_ n11_; clear ho hb hg hat
 obtain ⟨Ao144, co144, eo144⟩ := Kd.R_slice HOz37.out
 (first | subst eo144 | (injection eo144 with f1_ f2_ f3_; have f4_ := f1_.symm; have f5_ := f3_.symm; clear f1_ f2_ f3_; subst f4_; subst f5_))
 refine hK.out _ _ ⟨(blk_cell BKz25.out 0).trans rfl, (blk_cell BKz25.out 1).trans rfl, (blk_cell BKz1.out 0).trans rfl, (blk_cell BKz1.out 1).trans rfl, (blk_cell BKz1.out 2).trans rfl, (blk_cell BKz1.out 3).trans rfl, (blk_cell BKz1.out 4).trans rfl, (blk_cell BKz2.out 0).trans rfl, (blk_cell BKz3.out 0).trans rfl⟩ (fun hHeld => ?_)
 clear hK K
 refine norm_ (by show Act.put _ (some 68) _ = _; simp only [Act.put, sa_, s0_, s1_, i64_w, i32_w]; rfl) ?_
 refine la_ 10 none HT_ rfl rfl (fun K hK => ?_)
 have hs142 : w141.cell? ⟨gbz1, 0, none⟩ = some (.string tz26) := (blk_cell BKz1.out 0).trans rfl
 have hfs142 := blk_frozen BKz1.out 0
 have := NBz2_z1.out
 have := NBz3_z1.out
 have := NBz4_z1.out
 have := NBz14_z1.out
 have := NBz20_z1.out
 have := NBz25_z1.out
 have := NBz1_z2.out
 have := NBz1_z3.out
 have := NBz1_z4.out
 have := NBz1_z14.out
 have := NBz1_z20.out
 have := NBz1_z25.out
 have hs143 : w141.cell? ⟨gbz1, 1, none⟩ = some (.int .i64 tz27) := (blk_cell BKz1.out 1).trans rfl
 have hfs143 := blk_frozen BKz1.out 1
 have := NBz2_z1.out
 have := NBz3_z1.out
 have := NBz4_z1.out
 have := NBz14_z1.out
 have := NBz20_z1.out
 have := NBz25_z1.out
 have := NBz1_z2.out
 have := NBz1_z3.out
 have := NBz1_z4.out
 have := NBz1_z14.out
 have := NBz1_z20.out
 have := NBz1_z25.out
 refine skip_ (by rfl) rfl (by go_simp; rfl) ?_
 refine hK.out _ _ ?_
 clear hK K
 refine pv_ 11 (some 70) HT_ ?_
 refine la_ 12 none HT_ rfl rfl (fun K hK => ?_)
 have hs145 : w141.cell? ⟨gbz1, 3, none⟩ = some (.slice Ao138 tz31.length co138) := (blk_cell BKz1.out 3).trans rfl
 have hfs145 := blk_frozen BKz1.out 3
 have := NBz2_z1.out
 have := NBz3_z1.out
 have := NBz4_z1.out
 have := NBz14_z1.out
 have := NBz20_z1.out
 have := NBz25_z1.out
 have := NBz1_z2.out
 have := NBz1_z3.out
 have := NBz1_z4.out
 have := NBz1_z14.out
 have := NBz1_z20.out
 have := NBz1_z25.out
 refine skip_ (by rfl) rfl (by go_simp; rfl) ?_
 refine hK.out _ _ ?_
 clear hK K
 refine done_ (done_of HT_.out (by kernel_rfl)) ?_
 obtain ⟨hcz146_0, hcz146_1, hcz146_2, hcz146_3, hcz146_4⟩ := bc5 BKz1
 obtain ⟨hfz146_0, hfz146_1, hfz146_2, hfz146_3, hfz146_4⟩ := bf5 BKz1
 try go_wp2_with (first | ((with_reducible refine gate_callee (f := 52) rfl ?_); refine goesL_ (some 72) rfl rfl Try.func52 (by kernel_rfl) rfl #[.agg #[.string tz22, .int .i64 tz23, .slice Ao137 tz28.length co137, .slice Ao144 yz35.length co144, .bool tz34]] rfl (by (try simp only [List.map_toArray, List.map_cons, List.map_nil]) <;> rfl) ?_; (with_reducible refine (ideal_clash.calls tz22 tz23 _ _ tz28 _ _ yz35 tz34 tz38 _ ?side1 ?side2 ?side3 ?side4 A110.out).mono ?_); (case side1 => refine (Kd.R_reads' (e := 72) (base := w.heap.size) (ok := fun k_ => some k_ ≠ (.slice Ao21 tz7.length co21 : Value).ownBlock) (n := tz28.length) (c := co137) ?_).2.2; exact (by (with_reducible repeat first | apply ra | apply rn | apply rd); exact (Kd.R_mono (Kd.R_far (p := ⟨gbz1, 3, none⟩) (rf2 (Kd.R_types HOz30.out BKz1.out (by decide)) (fun _ hk => hk.2)) (fun _ hk => hk.2) (.slice Ao144 yz35.length co144)) (fun _ h_ => h_.1)))); (case side2 => exact (Kd.R_reads' HOz30.out).2.1); (case side3 => refine (Kd.R_reads' (e := 74) (base := w.heap.size) (ok := fun k_ => (some k_ ≠ (.slice Ao22 tz10.length co22 : Value).ownBlock ∧ k_ ≠ gbz20)) (n := yz35.length) (c := co144) ?_).2.2; exact (by (with_reducible repeat first | apply ra | apply rn | apply rd); exact (Kd.R_mono (Kd.R_far (p := ⟨gbz1, 3, none⟩) (rf2 (Kd.R_types HOz37.out BKz1.out (by decide)) (fun _ hk => hk.2)) (fun _ hk => hk.2) (.slice Ao144 yz35.length co144)) (fun _ h_ => h_.1)))); (case side4 => exact (Kd.R_reads' HOz37.out).2.1); rintro e w147 ⟨rfl, hb⟩; refine ⟨_, rfl, ?_⟩; have n0_ := am (Kd.R_below (by (with_reducible repeat first | apply ra | apply rn | apply rd); exact (Kd.R_mono (Kd.R_far (p := ⟨gbz1, 3, none⟩) (rf2 (Kd.R_types HO_z15002.out BKz1.out (by decide)) (fun _ hk => hk.2)) (fun _ hk => hk.2) (.slice Ao144 yz35.length co144)) (fun _ h_ => h_.1))) hb); have n1_ := am (Kd.R_below (by (with_reducible repeat first | apply ra | apply rn | apply rd); exact (Kd.R_mono (Kd.R_far (p := ⟨gbz1, 3, none⟩) (rf2 (Kd.R_types HO_z15003.out BKz1.out (by decide)) (fun _ hk => hk.2)) (fun _ hk => hk.2) (.slice Ao144 yz35.length co144)) (fun _ h_ => h_.1))) hb); have n2_ := am (Kd.R_below (by (with_reducible repeat first | apply ra | apply rn | apply rd); exact (Kd.R_mono (Kd.R_far (p := ⟨gbz1, 3, none⟩) (rf2 (Kd.R_types HOz30.out BKz1.out (by decide)) (fun _ hk => hk.2)) (fun _ hk => hk.2) (.slice Ao144 yz35.length co144)) (fun _ h_ => h_.1))) hb); have n3_ := am (Kd.R_below (by (with_reducible repeat first | apply ra | apply rn | apply rd); exact (Kd.R_mono (Kd.R_far (p := ⟨gbz1, 3, none⟩) (rf2 (Kd.R_types HOz37.out BKz1.out (by decide)) (fun _ hk => hk.2)) (fun _ hk => hk.2) (.slice Ao144 yz35.length co144)) (fun _ h_ => h_.1))) hb); have n4_ := am (bkB (g := gbz1) (o := .cells #[.string tz22, .int .i64 tz23, .slice Ao137 tz28.length co137, .slice Ao144 yz35.length co144, .bool tz34] 50 (0, 0)) (by (with_reducible repeat (first | refine blk_drewN ?_ _ | refine bkD ?_ | refine bkA ?_ _)); refine blk_put (cs := #[.string tz22, .int .i64 tz23, .slice Ao137 tz28.length co137, .slice Ao138 tz31.length co138, .bool tz34]) ?_ 3 _ rfl; refine blk_put (cs := #[.string tz22, .int .i64 tz27, .slice Ao137 tz28.length co137, .slice Ao138 tz31.length co138, .bool tz34]) ?_ 1 _ rfl; refine blk_put (cs := #[.string tz26, .int .i64 tz27, .slice Ao137 tz28.length co137, .slice Ao138 tz31.length co138, .bool tz34]) ?_ 0 _ rfl; exact pk BKz1) hb); have n5_ := am (bkB (g := gbz2) (o := .cells #[.string a1] 9 (0, 0)) (by (with_reducible repeat (first | refine blk_drewN ?_ _ | refine bkD ?_ | refine bkA ?_ _)); refine blk_far ?_ NBz2_z1.out _; refine blk_far ?_ NBz2_z1.out _; refine blk_far ?_ NBz2_z1.out _; exact pk BKz2) hb); have n6_ := am (bkB (g := gbz3) (o := .cells #[.string a2] 9 (0, 0)) (by (with_reducible repeat (first | refine blk_drewN ?_ _ | refine bkD ?_ | refine bkA ?_ _)); refine blk_far ?_ NBz3_z1.out _; refine blk_far ?_ NBz3_z1.out _; refine blk_far ?_ NBz3_z1.out _; exact pk BKz3) hb); have n7_ := am (bkB (g := gbz4) (o := .cells #[.string (⟨#[]⟩ : ByteArray), .int .i64 0, .slice none 0 0, .slice none 0 0, .bool false] 50 (0, 0)) (by (with_reducible repeat (first | refine blk_drewN ?_ _ | refine bkD ?_ | refine bkA ?_ _)); refine blk_far ?_ NBz4_z1.out _; refine blk_far ?_ NBz4_z1.out _; refine blk_far ?_ NBz4_z1.out _; exact pk BKz4) hb); have n8_ := am (bkB (g := gbz14) (o := .cells #[.string tz5, .int .i64 tz6, .slice Ao21 tz7.length co21, .slice Ao22 tz10.length co22, .bool tz13] 50 (0, 0)) (by (with_reducible repeat (first | refine blk_drewN ?_ _ | refine bkD ?_ | refine bkA ?_ _)); refine blk_far ?_ NBz14_z1.out _; refine blk_far ?_ NBz14_z1.out _; refine blk_far ?_ NBz14_z1.out _; exact pk BKz14) hb); have n9_ := am (bkB (g := gbz20) (o := .cells #[.string tz16, .string tz17, .string tz18] 74 (0, 0)) (by (with_reducible repeat (first | refine blk_drewN ?_ _ | refine bkD ?_ | refine bkA ?_ _)); refine blk_far ?_ NBz20_z1.out _; refine blk_far ?_ NBz20_z1.out _; refine blk_far ?_ NBz20_z1.out _; exact pk BKz20) hb); have n10_ := am (bkB (g := gbz25) (o := .cells #[.string tz22, .int .i64 tz23] 23 (0, 0)) (by (with_reducible repeat (first | refine blk_drewN ?_ _ | refine bkD ?_ | refine bkA ?_ _)); refine blk_far ?_ NBz25_z1.out _; refine blk_far ?_ NBz25_z1.out _; refine blk_far ?_ NBz25_z1.out _; exact pk BKz25) hb); have n11_ := am (below_step (sC_ HB) hb); clear HO_z15002; clear HO_z15003; clear HOz30; clear HOz37; clear BKz1; clear BKz2; clear BKz3; clear BKz4; clear BKz14; clear BKz20; clear BKz25; clear HB; have HO_z15002 := n0_; have HO_z15003 := n1_; have HOz30 := n2_; have HOz37 := n3_; have BKz1 := n4_; have BKz2 := n5_; have BKz3 := n6_; have BKz4 := n7_; have BKz14 := n8_; have BKz20 := n9_; have BKz25 := n10_; have HB := n11_; clear n0_ n1_ n2_ n3_ n4_ n5_ n6_ n7_ n8_ n9_ n10_ n11_; obtain ⟨hcz148_0, hcz148_1, hcz148_2, hcz148_3, hcz148_4⟩ := bc5 BKz1; obtain ⟨hfz148_0, hfz148_1, hfz148_2, hfz148_3, hfz148_4⟩ := bf5 BKz1))
 have n0_ : Aside0 (Kd.R k72 72 (w147.setCell ⟨gbz1, 4, none⟩ (.bool tz38)) w.heap.size (fun k_ => some k_ ≠ (.slice Ao137 tz28.length co137 : Value).ownBlock) (.slice Ao21 tz7.length co21) tz7) := ⟨by (with_reducible repeat first | apply ra | apply rn | apply rd); exact Kd.R_mono (Kd.R_far (p := ⟨gbz1, 4, none⟩) (Kd.R_types HO_z15002.out BKz1.out (by decide)) (fun _ hk => hk.2) (.bool tz38)) (fun _ hk => hk.1)⟩
 have n1_ : Aside0 (Kd.R k74 74 (w147.setCell ⟨gbz1, 4, none⟩ (.bool tz38)) w.heap.size (fun k_ => some k_ ≠ (.slice Ao144 yz35.length co144 : Value).ownBlock ∧ k_ ≠ gbz20) (.slice Ao22 tz10.length co22) tz10) := ⟨by (with_reducible repeat first | apply ra | apply rn | apply rd); exact Kd.R_mono (Kd.R_far (p := ⟨gbz1, 4, none⟩) (Kd.R_types HO_z15003.out BKz1.out (by decide)) (fun _ hk => hk.2) (.bool tz38)) (fun _ hk => ⟨hk.1.2, hk.1.1⟩)⟩
 have n2_ : Aside0 (Kd.R k72 72 (w147.setCell ⟨gbz1, 4, none⟩ (.bool tz38)) w.heap.size (fun k_ => some k_ ≠ (.slice Ao21 tz7.length co21 : Value).ownBlock) (.slice Ao137 tz28.length co137) tz28) := ⟨by (with_reducible repeat first | apply ra | apply rn | apply rd); exact Kd.R_mono (Kd.R_far (p := ⟨gbz1, 4, none⟩) (Kd.R_types HOz30.out BKz1.out (by decide)) (fun _ hk => hk.2) (.bool tz38)) (fun _ hk => hk.1)⟩
 have n3_ : Aside0 (Kd.R k74 74 (w147.setCell ⟨gbz1, 4, none⟩ (.bool tz38)) w.heap.size (fun k_ => some k_ ≠ (.slice Ao22 tz10.length co22 : Value).ownBlock ∧ k_ ≠ gbz20) (.slice Ao144 yz35.length co144) yz35) := ⟨by (with_reducible repeat first | apply ra | apply rn | apply rd); exact Kd.R_mono (Kd.R_far (p := ⟨gbz1, 4, none⟩) (Kd.R_types HOz37.out BKz1.out (by decide)) (fun _ hk => hk.2) (.bool tz38)) (fun _ hk => ⟨hk.1.1, hk.1.2⟩)⟩
 have n4_ : Aside0 ((w147.setCell ⟨gbz1, 4, none⟩ (.bool tz38)).heap[gbz1]? = some (.cells #[.string tz22, .int .i64 tz23, .slice Ao137 tz28.length co137, .slice Ao144 yz35.length co144, .bool tz38] 50 (0, 0))) := ⟨by (with_reducible repeat (first | refine blk_drewN ?_ _ | refine bkD ?_ | refine bkA ?_ _)); refine blk_put (cs := #[.string tz22, .int .i64 tz23, .slice Ao137 tz28.length co137, .slice Ao144 yz35.length co144, .bool tz34]) ?_ 4 _ rfl; (with_reducible repeat (first | refine blk_drewN ?_ _ | refine bkD ?_ | refine bkA ?_ _)); exact BKz1.out⟩
 have n5_ : Aside0 ((w147.setCell ⟨gbz1, 4, none⟩ (.bool tz38)).heap[gbz2]? = some (.cells #[.string a1] 9 (0, 0))) := ⟨by (with_reducible repeat (first | refine blk_drewN ?_ _ | refine bkD ?_ | refine bkA ?_ _)); refine blk_far ?_ NBz2_z1.out _; (with_reducible repeat (first | refine blk_drewN ?_ _ | refine bkD ?_ | refine bkA ?_ _)); exact BKz2.out⟩
 have n6_ : Aside0 ((w147.setCell ⟨gbz1, 4, none⟩ (.bool tz38)).heap[gbz3]? = some (.cells #[.string a2] 9 (0, 0))) := ⟨by (with_reducible repeat (first | refine blk_drewN ?_ _ | refine bkD ?_ | refine bkA ?_ _)); refine blk_far ?_ NBz3_z1.out _; (with_reducible repeat (first | refine blk_drewN ?_ _ | refine bkD ?_ | refine bkA ?_ _)); exact BKz3.out⟩
 have n7_ : Aside0 ((w147.setCell ⟨gbz1, 4, none⟩ (.bool tz38)).heap[gbz4]? = some (.cells #[.string (⟨#[]⟩ : ByteArray), .int .i64 0, .slice none 0 0, .slice none 0 0, .bool false] 50 (0, 0))) := ⟨by (with_reducible repeat (first | refine blk_drewN ?_ _ | refine bkD ?_ | refine bkA ?_ _)); refine blk_far ?_ NBz4_z1.out _; (with_reducible repeat (first | refine blk_drewN ?_ _ | refine bkD ?_ | refine bkA ?_ _)); exact BKz4.out⟩
 have n8_ : Aside0 ((w147.setCell ⟨gbz1, 4, none⟩ (.bool tz38)).heap[gbz14]? = some (.cells #[.string tz5, .int .i64 tz6, .slice Ao21 tz7.length co21, .slice Ao22 tz10.length co22, .bool tz13] 50 (0, 0))) := ⟨by (with_reducible repeat (first | refine blk_drewN ?_ _ | refine bkD ?_ | refine bkA ?_ _)); refine blk_far ?_ NBz14_z1.out _; (with_reducible repeat (first | refine blk_drewN ?_ _ | refine bkD ?_ | refine bkA ?_ _)); exact BKz14.out⟩
 have n9_ : Aside0 ((w147.setCell ⟨gbz1, 4, none⟩ (.bool tz38)).heap[gbz20]? = some (.cells #[.string tz16, .string tz17, .string tz18] 74 (0, 0))) := ⟨by (with_reducible repeat (first | refine blk_drewN ?_ _ | refine bkD ?_ | refine bkA ?_ _)); refine blk_far ?_ NBz20_z1.out _; (with_reducible repeat (first | refine blk_drewN ?_ _ | refine bkD ?_ | refine bkA ?_ _)); exact BKz20.out⟩
 have n10_ : Aside0 ((w147.setCell ⟨gbz1, 4, none⟩ (.bool tz38)).heap[gbz25]? = some (.cells #[.string tz22, .int .i64 tz23] 23 (0, 0))) := ⟨by (with_reducible repeat (first | refine blk_drewN ?_ _ | refine bkD ?_ | refine bkA ?_ _)); refine blk_far ?_ NBz25_z1.out _; (with_reducible repeat (first | refine blk_drewN ?_ _ | refine bkD ?_ | refine bkA ?_ _)); exact BKz25.out⟩
 have n11_ : Aside0 (Below w.heap.size w (w147.setCell ⟨gbz1, 4, none⟩ (.bool tz38))) := (sB_ HB)
 (try clear HO_z15002); (try clear HO_z15003); (try clear HOz30); (try clear HOz37); (try clear BKz1); (try clear BKz2); (try clear BKz3); (try clear BKz4); (try clear BKz14); (try clear BKz20); (try clear BKz25); (try clear HB)
 generalize (w147.setCell ⟨gbz1, 4, none⟩ (.bool tz38)) = w149 at n0_ n1_ n2_ n3_ n4_ n5_ n6_ n7_ n8_ n9_ n10_ n11_ ⊢
 have HO_z15002 := n0_; have HO_z15003 := n1_; have HOz30 := n2_; have HOz37 := n3_; have BKz1 := n4_; have BKz2 := n5_; have BKz3 := n6_; have BKz4 := n7_; have BKz14 := n8_; have BKz20 := n9_; have BKz25 := n10_; have HB := n11_; clear n0_ n1_ n2_ n3_ n4_ n5_ n6_ n7_ n8_ n9_ n10_ n11_
 have n0_ := am (Kd.R_drew HO_z15002.out)
 have n1_ := am (Kd.R_drew HO_z15003.out)
 have n2_ := am (Kd.R_drew HOz30.out)
 have n3_ := am (Kd.R_drew HOz37.out)
 have n4_ := am (bkD BKz1.out)
 have n5_ := am (bkD BKz2.out)
 have n6_ := am (bkD BKz3.out)
 have n7_ := am (bkD BKz4.out)
 have n8_ := am (bkD BKz14.out)
 have n9_ := am (bkD BKz20.out)
 have n10_ := am (bkD BKz25.out)
 have n11_ := am (below_drew1 HB.out)
 clear HO_z15002 HO_z15003 HOz30 HOz37 BKz1 BKz2 BKz3 BKz4 BKz14 BKz20 BKz25 HB; have HO_z15002 := n0_; have HO_z15003 := n1_; have HOz30 := n2_; have HOz37 := n3_; have BKz1 := n4_; have BKz2 := n5_; have BKz3 := n6_; have BKz4 := n7_; have BKz14 := n8_; have BKz20 := n9_; have BKz25 := n10_; have HB := n11_; clear n0_ n1_ n2_ n3_ n4_ n5_ n6_ n7_ n8_ n9_ n10_ n11_
 refine start_ (n := 5) (S := fun w' => w'.cell? ⟨gbz1, 0, none⟩ = some (.string tz22) ∧ w'.cell? ⟨gbz1, 1, none⟩ = some (.int .i64 tz23) ∧ w'.cell? ⟨gbz1, 2, none⟩ = some (.slice Ao137 tz28.length co137) ∧ w'.cell? ⟨gbz1, 3, none⟩ = some (.slice Ao144 yz35.length co144) ∧ w'.cell? ⟨gbz1, 4, none⟩ = some (.bool tz38)) (ds := []) #[false, false, false, false, false] (by kernel_rfl) rfl rfl (bc5 BKz1) (fun hHeld => ?_)
 generalize w149.drew = w150 at HO_z15002 HO_z15003 HOz30 HOz37 BKz1 BKz2 BKz3 BKz4 BKz14 BKz20 BKz25 HB hHeld ⊢
 refine pn_ 0 (some 74) rfl rfl (.inl ⟨by rfl, by intro w'; go_simp; with_reducible rfl⟩) (by simp only [Act.put, sa_, s0_, s1_, i64_w, i32_w]; rfl) ?_
 refine pn_ 2 (some 6) rfl rfl (.inl ⟨by rfl, by intro w'; go_simp; with_reducible rfl⟩) (by simp only [Act.put, sa_, s0_, s1_, i64_w, i32_w]; rfl) ?_
 refine tn_ 1 (some 75) rfl rfl (.inl ⟨by rfl, by rintro w' ⟨s0, s1, s2, s3, s4⟩; go_simp; with_reducible rfl⟩) hHeld (by simp only [Act.put, sa_, s0_, s1_, i64_w, i32_w]; rfl) ?_
 refine one_ (i := 3) (N := none) #[true, true, true, true, false] rfl rfl (by kernel_rfl) (by decide) (fun K hK => ?_)
 have hs151 : w150.cell? ⟨gbz4, 0, none⟩ = some (.string (⟨#[]⟩ : ByteArray)) := (blk_cell BKz4.out 0).trans rfl
 have hfs151 := blk_frozen BKz4.out 0
 have := NBz1_z4.out
 have := NBz2_z4.out
 have := NBz3_z4.out
 have := NBz14_z4.out
 have := NBz20_z4.out
 have := NBz25_z4.out
 have := NBz4_z1.out
 have := NBz4_z2.out
 have := NBz4_z3.out
 have := NBz4_z14.out
 have := NBz4_z20.out
 have := NBz4_z25.out
 have hs152 : w150.cell? ⟨gbz4, 1, none⟩ = some (.int .i64 0) := (blk_cell BKz4.out 1).trans rfl
 have hfs152 := blk_frozen BKz4.out 1
 have := NBz1_z4.out
 have := NBz2_z4.out
 have := NBz3_z4.out
 have := NBz14_z4.out
 have := NBz20_z4.out
 have := NBz25_z4.out
 have := NBz4_z1.out
 have := NBz4_z2.out
 have := NBz4_z3.out
 have := NBz4_z14.out
 have := NBz4_z20.out
 have := NBz4_z25.out
 have hs153 : w150.cell? ⟨gbz4, 2, none⟩ = some (.slice none 0 0) := (blk_cell BKz4.out 2).trans rfl
 have hfs153 := blk_frozen BKz4.out 2
 have := NBz1_z4.out
 have := NBz2_z4.out
 have := NBz3_z4.out
 have := NBz14_z4.out
 have := NBz20_z4.out
 have := NBz25_z4.out
 have := NBz4_z1.out
 have := NBz4_z2.out
 have := NBz4_z3.out
 have := NBz4_z14.out
 have := NBz4_z20.out
 have := NBz4_z25.out
 have hs154 : w150.cell? ⟨gbz4, 3, none⟩ = some (.slice none 0 0) := (blk_cell BKz4.out 3).trans rfl
 have hfs154 := blk_frozen BKz4.out 3
 have := NBz1_z4.out
 have := NBz2_z4.out
 have := NBz3_z4.out
 have := NBz14_z4.out
 have := NBz20_z4.out
 have := NBz25_z4.out
 have := NBz4_z1.out
 have := NBz4_z2.out
 have := NBz4_z3.out
 have := NBz4_z14.out
 have := NBz4_z20.out
 have := NBz4_z25.out
 have hs155 : w150.cell? ⟨gbz4, 4, none⟩ = some (.bool false) := (blk_cell BKz4.out 4).trans rfl
 have hfs155 := blk_frozen BKz4.out 4
 have := NBz1_z4.out
 have := NBz2_z4.out
 have := NBz3_z4.out
 have := NBz14_z4.out
 have := NBz20_z4.out
 have := NBz25_z4.out
 have := NBz4_z1.out
 have := NBz4_z2.out
 have := NBz4_z3.out
 have := NBz4_z14.out
 have := NBz4_z20.out
 have := NBz4_z25.out
 refine skip_ (by rfl) rfl (by go_simp; rfl) ?_
 refine hK.out _ _ ⟨((cf5 NBz1_z4).trans (hHeld.1)), ((cf5 NBz1_z4).trans (hHeld.2.1)), ((cf5 NBz1_z4).trans (hHeld.2.2.1)), ((cf5 NBz1_z4).trans (hHeld.2.2.2.1)), ((cf5 NBz1_z4).trans (hHeld.2.2.2.2))⟩ (fun hHeld => ?_)
 clear hK K
 refine pn_ 4 (some 8) rfl rfl (.inl ⟨by rfl, by intro w'; go_simp; with_reducible rfl⟩) (by simp only [Act.put, sa_, s0_, s1_, i64_w, i32_w]; rfl) ?_
 refine done_ (by kernel_rfl) ?_
 try go_wp2
 refine bodyPost_ret (results_list (rs := [.tmp 6, .cell 7 50, .tmp 8]) rfl (by simp) (.tmp (.cell gbz4 50 #[.string tz22, .int .i64 tz23, .slice Ao137 tz28.length co137, .slice Ao144 yz35.length co144, .bool tz38] (0, 0) _ rfl (by (with_reducible repeat (first | refine blk_drewN ?_ _ | refine bkD ?_ | refine bkA ?_ _)); apply bp5; exact pk BKz4) Try.underlying50 rfl (by kernel_rfl) (.tmp .nil)))) rfl ?_
 exact ⟨_, _, by first | rfl | (simp <;> rfl) | (simp [*] <;> rfl), by (with_reducible repeat first | apply ra | apply rn | apply rd); exact Kd.R_mono (rf5 (Kd.R_types HOz30.out BKz4.out (by decide)) (fun _ hk => hk.2)) (fun _ hk => trivial), by (with_reducible repeat first | apply ra | apply rn | apply rd); exact Kd.R_mono (rf5 (Kd.R_types HOz37.out BKz4.out (by decide)) (fun _ hk => hk.2)) (fun _ hk => trivial), sC_ HB⟩
end Go.Proofs.Ytmkncddbecmlpaa.Pr
end
