/-
  A text of what the row IdealTells reaches, laid together by a program of this session (wip/tools/shake.py) out of this seat's texts. No condition but the ones that each lemma names.
-/
import Derived.Test.YtmkncddbecmlpaaZIdealTells1
set_option linter.unusedVariables false
set_option linter.unusedSimpArgs false
section
namespace Go.Proofs.Ytmkncddbecmlpaa.Pr
open Go.Proofs.Ytmkncddbecmlpaa.Sq Go.RowKit Go.Proofs.YtmkncddbecmlpaaW.PrintWords Go.Proofs.YtmkncddbecmlpaaW.PrintLast Go.Proofs.YtmkncddbecmlpaaW.PrintMore
attribute [local go_sem] max2_int min2_int max_two min_two max_three min_three max_four min_four
set_option linter.unusedVariables false
set_option linter.unusedSimpArgs false
def ideal_Label.j0 : Nat → Bool → ByteArray → Int → List (S72) → List (S74) → Bool → ByteArray → ByteArray → Int → List (S72) → List (S74) → Bool → Option (ByteArray × ByteArray × Int × (List (S72)) × (List (S74)) × Bool × Int)
 | 0, _, _, _, _, _, _, _, _, _, _, _, _ => none
 | k + 1, x22, xz2000, xz2001, xz2002, xz2003, xz2004, xz3000, xz14000, xz14001, xz14002, xz14003, xz14004 => if x22 = true then (some ((⟨#[]⟩ : ByteArray), xz14000, xz14001, xz14002, xz14003, xz14004, 1)) else ((ideal_find_51.f xz2002 xz3000).bind fun btz15 => (if btz15.2.2 = true then (some (btz15.2.1, xz14000, xz14001, xz14002, xz14003, xz14004, 0)) else (if (xz2002.length : Int) = 2000 then (some ((⟨#[]⟩ : ByteArray), xz14000, xz14001, xz14002, xz14003, xz14004, 2)) else ((tape_Take.f k xz2000 xz2001 16).bind fun btz19 => (if btz19.2.2.2 = 0 then ((ideal_own.f xz2000 xz2001 xz2002 xz2003 xz2004).bind fun btz24 => (if btz24.2.2.1.length < 4398046511104 then ((some (btz24.2.2.1 ++ [(⟨xz3000, btz19.1⟩ : S72)] : List (S72))).bind fun yz33 => ((ideal_clash.f btz19.2.1 btz19.2.2.1 yz33 btz24.2.2.2.1 btz24.2.2.2.2).bind fun tz36 => (some (btz19.1, btz19.2.1, btz19.2.2.1, yz33, btz24.2.2.2.1, tz36, 0)))) else (none))) else (some ((⟨#[]⟩ : ByteArray), xz14000, xz14001, xz14002, xz14003, xz14004, btz19.2.2.2)))))))
def ideal_Label.f (k : Nat) (a0_0 : ByteArray) (a0_1 : Int) (l0_2 : List (S72)) (l0_3 : List (S74)) (a0_4 : Bool) (a1 : ByteArray) : Option (ByteArray × ByteArray × Int × (List (S72)) × (List (S74)) × Bool × Int) := (ideal_own.f a0_0 a0_1 l0_2 l0_3 a0_4).bind fun btz4 => ((ideal_Right.f a0_0 a0_1 l0_2 l0_3 a0_4).bind fun tz14 => (if tz14 = true then (ideal_Label.j0 k (decide ((a1.size : Int) > 100)) a0_0 a0_1 l0_2 l0_3 a0_4 a1 btz4.1 btz4.2.1 btz4.2.2.1 btz4.2.2.2.1 btz4.2.2.2.2) else (ideal_Label.j0 k true a0_0 a0_1 l0_2 l0_3 a0_4 a1 btz4.1 btz4.2.1 btz4.2.2.1 btz4.2.2.2.1 btz4.2.2.2.2)))
def ideal_Label.T13 : Bool × List (List Nat × List Nat) := (true, [([], []), ([], []), ([1], [1]), ([], []), ([], []), ([3, 4], [3, 4]), ([5], [5]), ([2, 6], [2, 6]), ([0, 1, 2], []), ([8, 0, 7, 0, 1, 2], [0, 8]), ([0, 1, 2, 3, 4, 5, 6, 7, 8, 9], []), ([10, 7, 9, 0, 1, 2, 3, 4, 5, 6, 7, 8, 9], [7, 10])])
def ideal_Label.B13 : List Nat := [0, 0, 2, 0, 0, 24, 56, 126, 7, 511, 1023, 2047]
theorem ideal_Label.tab13 : rtab .any (opsOf Try.f35 13) = ideal_Label.T13 := by kernel_rfl
theorem ideal_Label.bits13 : waitsOk ideal_Label.T13.2 ideal_Label.B13 = true := by kernel_rfl
set_option maxHeartbeats 8000000 in
set_option maxRecDepth 100000 in
theorem ideal_Label.calls (k : Nat) (a0_0 : ByteArray) (a0_1 : Int) (A0_2 : Option Addr) (c0_2 : Nat) (l0_2 : List (S72)) (A0_3 : Option Addr) (c0_3 : Nat) (l0_3 : List (S74)) (a0_4 : Bool) (a1 : ByteArray) (r1 : ByteArray) (r2 : ByteArray) (r3 : Int) (r4 : List (S72)) (r5 : List (S74)) (r6 : Bool) (r7 : Int) (w : World) (hr0_2 : Kd.C k72 w A0_2 l0_2.length l0_2) (hc0_2 : l0_2.length ≤ c0_2) (hr0_3 : Kd.C k74 w A0_3 l0_3.length l0_3) (hc0_3 : l0_3.length ≤ c0_3) (h : ideal_Label.f k a0_0 a0_1 l0_2 l0_3 a0_4 a1 = some (r1, r2, r3, r4, r5, r6, r7)) :
  Calls Try.prog 35 #[.agg #[.string a0_0, .int .i64 a0_1, .slice A0_2 l0_2.length c0_2, .slice A0_3 l0_3.length c0_3, .bool a0_4], .string a1] w fun e w' => ∃ v3_ v4_ : Value, e = .returned (.tuple #[.string r1, .agg #[.string r2, .int .i64 r3, v3_, v4_, .bool r6], .int .i64 r7]) ∧ Kd.R k72 72 w' w.heap.size (fun _ => True) v3_ r4 ∧ Kd.R k74 74 w' w.heap.size (fun _ => True) v4_ r5 ∧ Below w.heap.size w w' := by
 have hu50 := Try.underlying50
 have hu72 := Try.underlying72
 have hu23 := Try.underlying23
 have HR0_2 := am hr0_2
 have HC0_2 := am hc0_2
 clear hr0_2 hc0_2
 have HR0_3 := am hr0_3
 have HC0_3 := am hc0_3
 clear hr0_3 hc0_3
 have HB := am (Below.refl w.heap.size w)
 have H : ((ideal_own.f a0_0 a0_1 l0_2 l0_3 a0_4).bind fun btz4 => ((ideal_Right.f a0_0 a0_1 l0_2 l0_3 a0_4).bind fun tz14 => (if tz14 = true then (ideal_Label.j0 k (decide ((a1.size : Int) > 100)) a0_0 a0_1 l0_2 l0_3 a0_4 a1 btz4.1 btz4.2.1 btz4.2.2.1 btz4.2.2.2.1 btz4.2.2.2.2) else (ideal_Label.j0 k true a0_0 a0_1 l0_2 l0_3 a0_4 a1 btz4.1 btz4.2.1 btz4.2.2.1 btz4.2.2.2.1 btz4.2.2.2.2)))) = some (r1, r2, r3, r4, r5, r6, r7) := h
 clear h
 replace H := ob_ H
 obtain ⟨⟨tz4, tz5, tz6, tz9, tz12⟩, A30, H⟩ := H
 replace H : ((ideal_Right.f a0_0 a0_1 l0_2 l0_3 a0_4).bind fun tz14 => (if tz14 = true then (ideal_Label.j0 k (decide ((a1.size : Int) > 100)) a0_0 a0_1 l0_2 l0_3 a0_4 a1 tz4 tz5 tz6 tz9 tz12) else (ideal_Label.j0 k true a0_0 a0_1 l0_2 l0_3 a0_4 a1 tz4 tz5 tz6 tz9 tz12))) = some (r1, r2, r3, r4, r5, r6, r7) := H
 have A3 := Aside0.mk A30
 clear A30
 have HC4 := am H
 clear H
 go_enter Try.func35, Try.ntmps35
 go_upto_region 2 with (first | ((with_reducible refine gate_dst (N := 2) rfl ?_); (try (refine gate_guard (by rfl) ?_; dsimp only)); refine box_event ?hg (N := 2) ?hd (cs := #[.string a0_0, .int .i64 a0_1, .slice A0_2 l0_2.length c0_2, .slice A0_3 l0_3.length c0_3, .bool a0_4]) (t := 50) ?hr ?_; (case hd => rfl); (case hg => rfl); (case hr => first | (go_simp; done) | (go_simp; rfl)); intro gbz1 hg w5 hbox hb; have n0_ := am (below_step (pb HB) hb); have n1_ := am (hbox); have n2_ := ge_ hg (pb HB); have n3_ := ge_ hg (pb HB); clear HB; have HB := n0_; have BKz1 := n1_; have GWz1 := n2_; have GEz1 := n3_; clear n0_ n1_ n2_ n3_; clear hb hbox hg) | ((with_reducible refine gate_dst (N := 3) rfl ?_); (try (refine gate_guard (by rfl) ?_; dsimp only)); refine box_event ?hg (N := 3) ?hd (cs := #[.string a1]) (t := 9) ?hr ?_; (case hd => rfl); (case hg => rfl); (case hr => first | (go_simp; done) | (go_simp; rfl)); intro gbz2 hg w6 hbox hb; have n0_ := am (bkB (pk BKz1) hb); have n1_ := am (below_step (sC_ HB) hb); have n2_ := am (hbox); have n3_ := ge_ hg (sC_ HB); have n4_ := ge_ hg (sC_ HB); have n5_ := nl_ hg BKz1; have n6_ := ng_ hg BKz1; clear BKz1; clear HB; have BKz1 := n0_; have HB := n1_; have BKz2 := n2_; have GWz2 := n3_; have GEz2 := n4_; have NBz1_z2 := n5_; have NBz2_z1 := n6_; clear n0_ n1_ n2_ n3_ n4_ n5_ n6_; clear hb hbox hg) | ((with_reducible refine gate_dst (N := 5) rfl ?_); (try (refine gate_guard (by rfl) ?_; dsimp only)); refine box_event ?hg (N := 5) ?hd (cs := #[.string (⟨#[]⟩ : ByteArray), .int .i64 0, .slice none 0 0, .slice none 0 0, .bool false]) (t := 50) ?hr ?_; (case hd => rfl); (case hg => rfl); (case hr => first | (go_simp; done) | (go_simp; rfl)); intro gbz3 hg w7 hbox hb; have n0_ := am (bkB (pk BKz1) hb); have n1_ := am (bkB (pk BKz2) hb); have n2_ := am (below_step (sC_ HB) hb); have n3_ := am (hbox); have n4_ := ge_ hg (sC_ HB); have n5_ := ge_ hg (sC_ HB); have n6_ := nl_ hg BKz1; have n7_ := ng_ hg BKz1; have n8_ := nl_ hg BKz2; have n9_ := ng_ hg BKz2; clear BKz1; clear BKz2; clear HB; have BKz1 := n0_; have BKz2 := n1_; have HB := n2_; have BKz3 := n3_; have GWz3 := n4_; have GEz3 := n5_; have NBz1_z3 := n6_; have NBz3_z1 := n7_; have NBz2_z3 := n8_; have NBz3_z2 := n9_; clear n0_ n1_ n2_ n3_ n4_ n5_ n6_ n7_ n8_ n9_; clear hb hbox hg; have hnb8 := NBz1_z2.out; have hnc8 := NBz2_z1.out; have hnb9 := NBz1_z3.out; have hnc9 := NBz3_z1.out; obtain ⟨hcz10_0, hcz10_1, hcz10_2, hcz10_3, hcz10_4⟩ := bc5 BKz1; obtain ⟨hfz10_0, hfz10_1, hfz10_2, hfz10_3, hfz10_4⟩ := bf5 BKz1) | ((with_reducible refine gate_callee (f := 49) rfl ?_); refine goesL_ (some 14) rfl rfl Try.func49 (by kernel_rfl) rfl #[.agg #[.string a0_0, .int .i64 a0_1, .slice A0_2 l0_2.length c0_2, .slice A0_3 l0_3.length c0_3, .bool a0_4]] rfl (by (try simp only [List.map_toArray, List.map_cons, List.map_nil]) <;> rfl) ?_; (with_reducible refine (ideal_own.calls a0_0 a0_1 _ _ l0_2 _ _ l0_3 a0_4 tz4 tz5 tz6 tz9 tz12 _ ?side1 ?side2 ?side3 ?side4 A3.out).mono ?_); (case side1 => repeat (first | exact (Kd.C_below HR0_2.out HB.out) | (with_reducible refine Kd.C_alloc ?_ _) | (with_reducible refine Kd.C_drewN ?_ _) | (with_reducible refine Kd.C_drew ?_))); (case side2 => exact HC0_2.out); (case side3 => repeat (first | exact (Kd.C_below HR0_3.out HB.out) | (with_reducible refine Kd.C_alloc ?_ _) | (with_reducible refine Kd.C_drewN ?_ _) | (with_reducible refine Kd.C_drew ?_))); (case side4 => exact HC0_3.out); rintro e w11 ⟨vz7, vz10, rfl, ho0, ho1, hb⟩; refine ⟨_, rfl, ?_⟩; have n0_ := am (Kd.R_lower ho0 (below_size (sC_ HB))); have n1_ := am (Kd.R_lower ho1 (below_size (sC_ HB))); have n2_ := am (bkB (pk BKz1) hb); have n3_ := am (bkB (pk BKz2) hb); have n4_ := am (bkB (g := gbz3) (o := .cells #[.string (⟨#[]⟩ : ByteArray), .int .i64 0, .slice none 0 0, .slice none 0 0, .bool false] 50 (0, 0)) (pk BKz3) hb); have n5_ := am (below_step (sC_ HB) hb); clear BKz1; clear BKz2; clear BKz3; clear HB; have HOz8 := n0_; have HOz11 := n1_; have BKz1 := n2_; have BKz2 := n3_; have BKz3 := n4_; have HB := n5_; clear n0_ n1_ n2_ n3_ n4_ n5_; (try clear ho1)) | ((with_reducible refine gate_dst (N := 7) rfl ?_); (try (refine gate_guard (by rfl) ?_; dsimp only)); refine box_event ?hg (N := 7) ?hd (cs := #[.string (⟨#[]⟩ : ByteArray), .int .i64 0, .slice none 0 0, .slice none 0 0, .bool false]) (t := 50) ?hr ?_; (case hd => rfl); (case hg => rfl); (case hr => first | (go_simp; done) | (go_simp; rfl)); intro gbz13 hg w12 hbox hb; have n0_ := am (Kd.R_below (pr HOz8) hb); have n1_ := am (Kd.R_below (pr HOz11) hb); have n2_ := am (bkB (pk BKz1) hb); have n3_ := am (bkB (pk BKz2) hb); have n4_ := am (bkB (g := gbz3) (o := .cells #[.string (⟨#[]⟩ : ByteArray), .int .i64 0, .slice none 0 0, .slice none 0 0, .bool false] 50 (0, 0)) (pk BKz3) hb); have n5_ := am (below_step (sC_ HB) hb); have n6_ := am (hbox); have n7_ := ge_ hg (sC_ HB); have n8_ := ge_ hg (sC_ HB); have n9_ := nl_ hg BKz1; have n10_ := ng_ hg BKz1; have n11_ := nl_ hg BKz2; have n12_ := ng_ hg BKz2; have n13_ := am ((by rw [hg]; exact Nat.ne_of_lt (blk_lt (g := gbz3) (o := .cells #[.string (⟨#[]⟩ : ByteArray), .int .i64 0, .slice none 0 0, .slice none 0 0, .bool false] 50 (0, 0)) (pk BKz3)) : gbz3 ≠ gbz13)); have n14_ := am ((by rw [hg]; exact Nat.ne_of_gt (blk_lt (g := gbz3) (o := .cells #[.string (⟨#[]⟩ : ByteArray), .int .i64 0, .slice none 0 0, .slice none 0 0, .bool false] 50 (0, 0)) (pk BKz3)) : gbz13 ≠ gbz3)); clear HOz8; clear HOz11; clear BKz1; clear BKz2; clear BKz3; clear HB; have HOz8 := n0_; have HOz11 := n1_; have BKz1 := n2_; have BKz2 := n3_; have BKz3 := n4_; have HB := n5_; have BKz13 := n6_; have GWz13 := n7_; have GEz13 := n8_; have NBz1_z13 := n9_; have NBz13_z1 := n10_; have NBz2_z13 := n11_; have NBz13_z2 := n12_; have NBz3_z13 := n13_; have NBz13_z3 := n14_; clear n0_ n1_ n2_ n3_ n4_ n5_ n6_ n7_ n8_ n9_ n10_ n11_ n12_ n13_ n14_; clear hb hbox hg; have hnb13 := NBz13_z1.out; have hnc13 := NBz1_z13.out; have hnb14 := NBz13_z2.out; have hnc14 := NBz2_z13.out; have hnb15 := NBz13_z3.out; have hnc15 := NBz3_z13.out; obtain ⟨hcz16_0, hcz16_1, hcz16_2, hcz16_3, hcz16_4⟩ := bc5 BKz13; obtain ⟨hfz16_0, hfz16_1, hfz16_2, hfz16_3, hfz16_4⟩ := bf5 BKz13; obtain ⟨Ao17, co17, eo17⟩ := Kd.R_slice HOz8.out; subst eo17; obtain ⟨Ao18, co18, eo18⟩ := Kd.R_slice HOz11.out; subst eo18))
 (try simp only [Act.put, List.setIfInBounds_toArray, List.set_cons_zero, List.set_cons_succ])
 go_cut [22] (fun v22 wc => ∃ (kq : Nat) (x22_3 : Bool), v22 = .bool x22_3 ∧ Aside0 (ideal_Label.j0 kq x22_3 a0_0 a0_1 l0_2 l0_3 a0_4 a1 tz4 tz5 tz6 tz9 tz12 = some (r1, r2, r3, r4, r5, r6, r7)) ∧ Aside0 (kq ≤ k) ∧ Aside0 (Kd.R k72 72 wc w.heap.size (fun _ => True) (.slice Ao17 tz6.length co17) tz6) ∧ Aside0 (Kd.R k74 74 wc w.heap.size (fun _ => True) (.slice Ao18 tz9.length co18) tz9) ∧ Aside0 (wc.heap[gbz1]? = some (.cells #[.string a0_0, .int .i64 a0_1, (.slice A0_2 l0_2.length c0_2), (.slice A0_3 l0_3.length c0_3), .bool a0_4] 50 (0, 0))) ∧ Aside0 (wc.heap[gbz2]? = some (.cells #[.string a1] 9 (0, 0))) ∧ Aside0 (wc.heap[gbz3]? = some (.cells #[.string (⟨#[]⟩ : ByteArray), .int .i64 0, (.slice none 0 0), (.slice none 0 0), .bool false] 50 (0, 0))) ∧ Aside0 (wc.heap[gbz13]? = some (.cells #[.string tz4, .int .i64 tz5, (.slice Ao17 tz6.length co17), (.slice Ao18 tz9.length co18), .bool tz12] 50 (0, 0))) ∧ Aside0 (Below w.heap.size w wc))
 case first =>
  have H := HC4.out
  clear HC4
  replace H := ob_ H
  obtain ⟨tz14, A190, H⟩ := H
  replace H : (if tz14 = true then (ideal_Label.j0 k (decide ((a1.size : Int) > 100)) a0_0 a0_1 l0_2 l0_3 a0_4 a1 tz4 tz5 tz6 tz9 tz12) else (ideal_Label.j0 k true a0_0 a0_1 l0_2 l0_3 a0_4 a1 tz4 tz5 tz6 tz9 tz12)) = some (r1, r2, r3, r4, r5, r6, r7) := H
  have A19 := Aside0.mk A190
  clear A190
  by_cases c20 : tz14 = true
  rotate_left
  ·replace c20 := Bool.eq_false_iff.mpr c20
   subst c20
   have H1 : (ideal_Label.j0 k true a0_0 a0_1 l0_2 l0_3 a0_4 a1 tz4 tz5 tz6 tz9 tz12) = some (r1, r2, r3, r4, r5, r6, r7) := by rw [if_neg (show ¬ (false = true) by decide)] at H; exact H
   clear H
   have H := H1
   clear H1
   have H' := am H
   clear H
   have hnb29 := NBz1_z2.out
   have hnc29 := NBz2_z1.out
   have hnb30 := NBz1_z3.out
   have hnc30 := NBz3_z1.out
   have hnb31 := NBz1_z13.out
   have hnc31 := NBz13_z1.out
   obtain ⟨hcz32_0, hcz32_1, hcz32_2, hcz32_3, hcz32_4⟩ := bc5 BKz1
   obtain ⟨hfz32_0, hfz32_1, hfz32_2, hfz32_3, hfz32_4⟩ := bf5 BKz1
   go_wp2_with (first | ((with_reducible refine gate_callee (f := 37) rfl ?_); refine goesL_ (some 16) rfl rfl Try.func37 (by kernel_rfl) rfl #[.agg #[.string a0_0, .int .i64 a0_1, .slice A0_2 l0_2.length c0_2, .slice A0_3 l0_3.length c0_3, .bool a0_4]] rfl (by (try simp only [List.map_toArray, List.map_cons, List.map_nil]) <;> rfl) ?_; (with_reducible refine (ideal_Right.calls a0_0 a0_1 _ _ l0_2 _ _ l0_3 a0_4 false _ ?side1 ?side2 ?side3 ?side4 A19.out).mono ?_); (case side1 => exact Kd.C_below HR0_2.out (sC_ HB)); (case side2 => exact HC0_2.out); (case side3 => exact Kd.C_below HR0_3.out (sC_ HB)); (case side4 => exact HC0_3.out); rintro e w33 ⟨rfl, hb⟩; refine ⟨_, rfl, ?_⟩; have n0_ := am (Kd.R_below (by (with_reducible repeat first | apply ra | apply rn | apply rd); exact (rs5 HOz8 BKz13 (by decide))) hb); have n1_ := am (Kd.R_below (by (with_reducible repeat first | apply ra | apply rn | apply rd); exact (rs5 HOz11 BKz13 (by decide))) hb); have n2_ := am (bkB (g := gbz1) (o := .cells #[.string a0_0, .int .i64 a0_1, .slice A0_2 l0_2.length c0_2, .slice A0_3 l0_3.length c0_3, .bool a0_4] 50 (0, 0)) (by (with_reducible repeat (first | refine blk_drewN ?_ _ | refine bkD ?_ | refine bkA ?_ _)); refine br5 ?_ NBz1_z13; exact pk BKz1) hb); have n3_ := am (bkB (g := gbz2) (o := .cells #[.string a1] 9 (0, 0)) (by (with_reducible repeat (first | refine blk_drewN ?_ _ | refine bkD ?_ | refine bkA ?_ _)); refine br5 ?_ NBz2_z13; exact pk BKz2) hb); have n4_ := am (bkB (g := gbz3) (o := .cells #[.string (⟨#[]⟩ : ByteArray), .int .i64 0, .slice none 0 0, .slice none 0 0, .bool false] 50 (0, 0)) (by (with_reducible repeat (first | refine blk_drewN ?_ _ | refine bkD ?_ | refine bkA ?_ _)); refine br5 ?_ NBz3_z13; exact pk BKz3) hb); have n5_ := am (bkB (g := gbz13) (o := .cells #[.string tz4, .int .i64 tz5, .slice Ao17 tz6.length co17, .slice Ao18 tz9.length co18, .bool tz12] 50 (0, 0)) (by (with_reducible repeat (first | refine blk_drewN ?_ _ | refine bkD ?_ | refine bkA ?_ _)); apply bp5; exact pk BKz13) hb); have n6_ := am (below_step (sC_ HB) hb); clear HOz8; clear HOz11; clear BKz1; clear BKz2; clear BKz3; clear BKz13; clear HB; have HOz8 := n0_; have HOz11 := n1_; have BKz1 := n2_; have BKz2 := n3_; have BKz3 := n4_; have BKz13 := n5_; have HB := n6_; clear n0_ n1_ n2_ n3_ n4_ n5_ n6_; (try clear hi)))
   go_meet
   case rel => exact ⟨_, (true), (by first | rfl | (simp; done) | (simp [*]; done)), H', ⟨by first | omega | exact Nat.le_refl _⟩, (sr_ HOz8), (sr_ HOz11), (sk_ BKz1), (sk_ BKz2), (sk_ BKz3), (sk_ BKz13), (sB_ HB)⟩
  subst c20
  have H1 : (ideal_Label.j0 k (decide ((a1.size : Int) > 100)) a0_0 a0_1 l0_2 l0_3 a0_4 a1 tz4 tz5 tz6 tz9 tz12) = some (r1, r2, r3, r4, r5, r6, r7) := by rw [if_pos rfl] at H; exact H
  clear H
  have H := H1
  clear H1
  have H' := am H
  clear H
  have hnb21 := NBz1_z2.out
  have hnc21 := NBz2_z1.out
  have hnb22 := NBz1_z3.out
  have hnc22 := NBz3_z1.out
  have hnb23 := NBz1_z13.out
  have hnc23 := NBz13_z1.out
  obtain ⟨hcz24_0, hcz24_1, hcz24_2, hcz24_3, hcz24_4⟩ := bc5 BKz1
  obtain ⟨hfz24_0, hfz24_1, hfz24_2, hfz24_3, hfz24_4⟩ := bf5 BKz1
  go_wp2_with (first | ((with_reducible refine gate_callee (f := 37) rfl ?_); refine goesL_ (some 16) rfl rfl Try.func37 (by kernel_rfl) rfl #[.agg #[.string a0_0, .int .i64 a0_1, .slice A0_2 l0_2.length c0_2, .slice A0_3 l0_3.length c0_3, .bool a0_4]] rfl (by (try simp only [List.map_toArray, List.map_cons, List.map_nil]) <;> rfl) ?_; (with_reducible refine (ideal_Right.calls a0_0 a0_1 _ _ l0_2 _ _ l0_3 a0_4 true _ ?side1 ?side2 ?side3 ?side4 A19.out).mono ?_); (case side1 => exact Kd.C_below HR0_2.out (sC_ HB)); (case side2 => exact HC0_2.out); (case side3 => exact Kd.C_below HR0_3.out (sC_ HB)); (case side4 => exact HC0_3.out); rintro e w25 ⟨rfl, hb⟩; refine ⟨_, rfl, ?_⟩; have n0_ := am (Kd.R_below (by (with_reducible repeat first | apply ra | apply rn | apply rd); exact (rs5 HOz8 BKz13 (by decide))) hb); have n1_ := am (Kd.R_below (by (with_reducible repeat first | apply ra | apply rn | apply rd); exact (rs5 HOz11 BKz13 (by decide))) hb); have n2_ := am (bkB (g := gbz1) (o := .cells #[.string a0_0, .int .i64 a0_1, .slice A0_2 l0_2.length c0_2, .slice A0_3 l0_3.length c0_3, .bool a0_4] 50 (0, 0)) (by (with_reducible repeat (first | refine blk_drewN ?_ _ | refine bkD ?_ | refine bkA ?_ _)); refine br5 ?_ NBz1_z13; exact pk BKz1) hb); have n3_ := am (bkB (g := gbz2) (o := .cells #[.string a1] 9 (0, 0)) (by (with_reducible repeat (first | refine blk_drewN ?_ _ | refine bkD ?_ | refine bkA ?_ _)); refine br5 ?_ NBz2_z13; exact pk BKz2) hb); have n4_ := am (bkB (g := gbz3) (o := .cells #[.string (⟨#[]⟩ : ByteArray), .int .i64 0, .slice none 0 0, .slice none 0 0, .bool false] 50 (0, 0)) (by (with_reducible repeat (first | refine blk_drewN ?_ _ | refine bkD ?_ | refine bkA ?_ _)); refine br5 ?_ NBz3_z13; exact pk BKz3) hb); have n5_ := am (bkB (g := gbz13) (o := .cells #[.string tz4, .int .i64 tz5, .slice Ao17 tz6.length co17, .slice Ao18 tz9.length co18, .bool tz12] 50 (0, 0)) (by (with_reducible repeat (first | refine blk_drewN ?_ _ | refine bkD ?_ | refine bkA ?_ _)); apply bp5; exact pk BKz13) hb); have n6_ := am (below_step (sC_ HB) hb); clear HOz8; clear HOz11; clear BKz1; clear BKz2; clear BKz3; clear BKz13; clear HB; have HOz8 := n0_; have HOz11 := n1_; have BKz1 := n2_; have BKz2 := n3_; have BKz3 := n4_; have BKz13 := n5_; have HB := n6_; clear n0_ n1_ n2_ n3_ n4_ n5_ n6_; have hnb26 := NBz2_z3.out; have hnc26 := NBz3_z2.out; have hnb27 := NBz2_z13.out; have hnc27 := NBz13_z2.out; have hcz28_0 : w25.cell? ⟨gbz2, 0, none⟩ = some (.string a1) := (blk_cell BKz2.out 0).trans rfl; have hfz28_0 := blk_frozen BKz2.out 0))
  go_meet
  case rel => exact ⟨_, (decide ((a1.size : Int) > 100)), (by first | rfl | (simp; done) | (simp [*]; done)), H', ⟨by first | omega | exact Nat.le_refl _⟩, (sr_ HOz8), (sr_ HOz11), (sk_ BKz1), (sk_ BKz2), (sk_ BKz3), (sk_ BKz13), (sB_ HB)⟩
 clear HC4
 try clear c1
 try clear c2
 try clear p2
 try clear c3
 try clear c4
 try clear c8
 try clear c9
 try clear c13
 try clear c14
 try clear c15
 try clear c20
 try clear c21
 try clear c22
 try clear c23
 try clear c26
 try clear c27
 try clear c29
 try clear c30
 try clear c31
 try clear hcz10_0
 try clear hcz10_1
 try clear hcz10_2
 try clear hcz10_3
 try clear hcz10_4
 try clear hcz16_0
 try clear hcz16_1
 try clear hcz16_2
 try clear hcz16_3
 try clear hcz16_4
 try clear hcz24_0
 try clear hcz24_1
 try clear hcz24_2
 try clear hcz24_3
 try clear hcz24_4
 try clear hcz28_0
 try clear hcz32_0
 try clear hcz32_1
 try clear hcz32_2
 try clear hcz32_3
 try clear hcz32_4
 try clear hfz10_0
 try clear hfz10_1
 try clear hfz10_2
 try clear hfz10_3
 try clear hfz10_4
 try clear hfz16_0
 try clear hfz16_1
 try clear hfz16_2
 try clear hfz16_3
 try clear hfz16_4
 try clear hfz24_0
 try clear hfz24_1
 try clear hfz24_2
 try clear hfz24_3
 try clear hfz24_4
 try clear hfz28_0
 try clear hfz32_0
 try clear hfz32_1
 try clear hfz32_2
 try clear hfz32_3
 try clear hfz32_4
 obtain ⟨kq, x22_3, rfl, HA, HJ3, HO_z14002, HO_z14003, BKz1, BKz2, BKz3, BKz13, HB⟩ := hcut
 cases kq with
 | zero => exact absurd HA.out (by simp [ideal_Label.j0])
 | succ kj3 => ?_
 have H := HA.out
 clear HA
 simp only [ideal_Label.j0] at H
 by_cases c34 : x22_3 = true
 ·subst c34
  have H1 : (some ((⟨#[]⟩ : ByteArray), tz4, tz5, tz6, tz9, tz12, 1)) = some (r1, r2, r3, r4, r5, r6, r7) := by rw [if_pos rfl] at H; exact H
  clear H
  have H := H1
  clear H1
  simp only [Option.some.injEq, Prod.mk.injEq] at H
  obtain ⟨rfl, rfl, rfl, rfl, rfl, rfl, rfl⟩ := H
  try go_wp2
  have n0_ := am (Kd.R_drew HO_z14002.out)
  have n1_ := am (Kd.R_drew HO_z14003.out)
  have n2_ := am (bkD BKz1.out)
  have n3_ := am (bkD BKz2.out)
  have n4_ := am (bkD BKz3.out)
  have n5_ := am (bkD BKz13.out)
  have n6_ := am (below_drew1 HB.out)
  clear HO_z14002 HO_z14003 BKz1 BKz2 BKz3 BKz13 HB; have HO_z14002 := n0_; have HO_z14003 := n1_; have BKz1 := n2_; have BKz2 := n3_; have BKz3 := n4_; have BKz13 := n5_; have HB := n6_; clear n0_ n1_ n2_ n3_ n4_ n5_ n6_
  refine start_ (n := 4) (S := fun w' => w'.cell? ⟨gbz13, 0, none⟩ = some (.string tz4) ∧ w'.cell? ⟨gbz13, 1, none⟩ = some (.int .i64 tz5) ∧ w'.cell? ⟨gbz13, 2, none⟩ = some (.slice Ao17 tz6.length co17) ∧ w'.cell? ⟨gbz13, 3, none⟩ = some (.slice Ao18 tz9.length co18) ∧ w'.cell? ⟨gbz13, 4, none⟩ = some (.bool tz12)) (ds := []) #[false, false, false, false] (by kernel_rfl) rfl rfl (bc5 BKz13) (fun hHeld => ?_)
  generalize wc.drew = w35 at HO_z14002 HO_z14003 BKz1 BKz2 BKz3 BKz13 HB hHeld ⊢
  refine pn_ 1 (some 4) rfl rfl (.inl ⟨by rfl, by intro w'; go_simp; with_reducible rfl⟩) (by simp only [Act.put, sa_, s0_, s1_, i64_w, i32_w]; rfl) ?_
  refine tn_ 0 (some 23) rfl rfl (.inl ⟨by rfl, by rintro w' ⟨s0, s1, s2, s3, s4⟩; go_simp; with_reducible rfl⟩) hHeld (by simp only [Act.put, sa_, s0_, s1_, i64_w, i32_w]; rfl) ?_
  refine one_ (i := 2) (N := none) #[true, true, true, false] rfl rfl (by kernel_rfl) (by decide) (fun K hK => ?_)
  have hs36 : w35.cell? ⟨gbz3, 0, none⟩ = some (.string (⟨#[]⟩ : ByteArray)) := (blk_cell BKz3.out 0).trans rfl
  have hfs36 := blk_frozen BKz3.out 0
  have := NBz1_z3.out
  have := NBz2_z3.out
  have := NBz13_z3.out
  have := NBz3_z1.out
  have := NBz3_z2.out
  have := NBz3_z13.out
  have hs37 : w35.cell? ⟨gbz3, 1, none⟩ = some (.int .i64 0) := (blk_cell BKz3.out 1).trans rfl
  have hfs37 := blk_frozen BKz3.out 1
  have := NBz1_z3.out
  have := NBz2_z3.out
  have := NBz13_z3.out
  have := NBz3_z1.out
  have := NBz3_z2.out
  have := NBz3_z13.out
  have hs38 : w35.cell? ⟨gbz3, 2, none⟩ = some (.slice none 0 0) := (blk_cell BKz3.out 2).trans rfl
  have hfs38 := blk_frozen BKz3.out 2
  have := NBz1_z3.out
  have := NBz2_z3.out
  have := NBz13_z3.out
  have := NBz3_z1.out
  have := NBz3_z2.out
  have := NBz3_z13.out
  have hs39 : w35.cell? ⟨gbz3, 3, none⟩ = some (.slice none 0 0) := (blk_cell BKz3.out 3).trans rfl
  have hfs39 := blk_frozen BKz3.out 3
  have := NBz1_z3.out
  have := NBz2_z3.out
  have := NBz13_z3.out
  have := NBz3_z1.out
  have := NBz3_z2.out
  have := NBz3_z13.out
  have hs40 : w35.cell? ⟨gbz3, 4, none⟩ = some (.bool false) := (blk_cell BKz3.out 4).trans rfl
  have hfs40 := blk_frozen BKz3.out 4
  have := NBz1_z3.out
  have := NBz2_z3.out
  have := NBz13_z3.out
  have := NBz3_z1.out
  have := NBz3_z2.out
  have := NBz3_z13.out
  refine skip_ (by rfl) rfl (by go_simp; rfl) ?_
  refine hK.out _ _ ⟨((cf5 NBz13_z3).trans (hHeld.1)), ((cf5 NBz13_z3).trans (hHeld.2.1)), ((cf5 NBz13_z3).trans (hHeld.2.2.1)), ((cf5 NBz13_z3).trans (hHeld.2.2.2.1)), ((cf5 NBz13_z3).trans (hHeld.2.2.2.2))⟩ (fun hHeld => ?_)
  clear hK K
  refine pn_ 3 (some 6) rfl rfl (.inl ⟨by rfl, by intro w'; go_simp; with_reducible rfl⟩) (by simp only [Act.put, sa_, s0_, s1_, i64_w, i32_w]; rfl) ?_
  refine done_ (by kernel_rfl) ?_
  try go_wp2
  refine bodyPost_ret (results_list (rs := [.tmp 4, .cell 5 50, .tmp 6]) rfl (by simp) (.tmp (.cell gbz3 50 #[.string tz4, .int .i64 tz5, .slice Ao17 tz6.length co17, .slice Ao18 tz9.length co18, .bool tz12] (0, 0) _ rfl (by (with_reducible repeat (first | refine blk_drewN ?_ _ | refine bkD ?_ | refine bkA ?_ _)); apply bp5; exact pk BKz3) Try.underlying50 rfl (by kernel_rfl) (.tmp .nil)))) rfl ?_
  exact ⟨_, _, by first | rfl | (simp <;> rfl) | (simp [*] <;> rfl), by (with_reducible repeat first | apply ra | apply rn | apply rd); exact Kd.R_mono (rf5 (Kd.R_types HO_z14002.out BKz3.out (by decide)) (fun _ hk => hk.2)) (fun _ hk => trivial), by (with_reducible repeat first | apply ra | apply rn | apply rd); exact Kd.R_mono (rf5 (Kd.R_types HO_z14003.out BKz3.out (by decide)) (fun _ hk => hk.2)) (fun _ hk => trivial), sC_ HB⟩
 replace c34 := Bool.eq_false_iff.mpr c34
 subst c34
 have H1 : ((ideal_find_51.f l0_2 a1).bind fun btz15 => (if btz15.2.2 = true then (some (btz15.2.1, tz4, tz5, tz6, tz9, tz12, 0)) else (if (l0_2.length : Int) = 2000 then (some ((⟨#[]⟩ : ByteArray), tz4, tz5, tz6, tz9, tz12, 2)) else ((tape_Take.f kj3 a0_0 a0_1 16).bind fun btz19 => (if btz19.2.2.2 = 0 then ((ideal_own.f a0_0 a0_1 l0_2 l0_3 a0_4).bind fun btz24 => (if btz24.2.2.1.length < 4398046511104 then ((some (btz24.2.2.1 ++ [(⟨a1, btz19.1⟩ : S72)] : List (S72))).bind fun yz33 => ((ideal_clash.f btz19.2.1 btz19.2.2.1 yz33 btz24.2.2.2.1 btz24.2.2.2.2).bind fun tz36 => (some (btz19.1, btz19.2.1, btz19.2.2.1, yz33, btz24.2.2.2.1, tz36, 0)))) else (none))) else (some ((⟨#[]⟩ : ByteArray), tz4, tz5, tz6, tz9, tz12, btz19.2.2.2))))))) = some (r1, r2, r3, r4, r5, r6, r7) := by rw [if_neg (show ¬ (false = true) by decide)] at H; exact H
 clear H
 have H := H1
 clear H1
 replace H := ob_ H
 obtain ⟨⟨tz15, tz16, tz17⟩, A410, H⟩ := H
 replace H : (if tz17 = true then (some (tz16, tz4, tz5, tz6, tz9, tz12, 0)) else (if (l0_2.length : Int) = 2000 then (some ((⟨#[]⟩ : ByteArray), tz4, tz5, tz6, tz9, tz12, 2)) else ((tape_Take.f kj3 a0_0 a0_1 16).bind fun btz19 => (if btz19.2.2.2 = 0 then ((ideal_own.f a0_0 a0_1 l0_2 l0_3 a0_4).bind fun btz24 => (if btz24.2.2.1.length < 4398046511104 then ((some (btz24.2.2.1 ++ [(⟨a1, btz19.1⟩ : S72)] : List (S72))).bind fun yz33 => ((ideal_clash.f btz19.2.1 btz19.2.2.1 yz33 btz24.2.2.2.1 btz24.2.2.2.2).bind fun tz36 => (some (btz19.1, btz19.2.1, btz19.2.2.1, yz33, btz24.2.2.2.1, tz36, 0)))) else (none))) else (some ((⟨#[]⟩ : ByteArray), tz4, tz5, tz6, tz9, tz12, btz19.2.2.2)))))) = some (r1, r2, r3, r4, r5, r6, r7) := H
 have A41 := Aside0.mk A410
 clear A410
 by_cases c42 : tz17 = true
 ·subst c42
  have H1 : (some (tz16, tz4, tz5, tz6, tz9, tz12, 0)) = some (r1, r2, r3, r4, r5, r6, r7) := by rw [if_pos rfl] at H; exact H
  clear H
  have H := H1
  clear H1
  simp only [Option.some.injEq, Prod.mk.injEq] at H
  obtain ⟨rfl, rfl, rfl, rfl, rfl, rfl, rfl⟩ := H
  have hnb43 := NBz1_z2.out
  have hnc43 := NBz2_z1.out
  have hnb44 := NBz1_z3.out
  have hnc44 := NBz3_z1.out
  have hnb45 := NBz1_z13.out
  have hnc45 := NBz13_z1.out
  obtain ⟨hcz46_0, hcz46_1, hcz46_2, hcz46_3, hcz46_4⟩ := bc5 BKz1
  obtain ⟨hfz46_0, hfz46_1, hfz46_2, hfz46_3, hfz46_4⟩ := bf5 BKz1
  try go_wp2_with (first | ((with_reducible refine gate_callee (f := 50) rfl ?_); refine goesL_ (some 28) rfl rfl Try.func50 (by kernel_rfl) rfl #[.slice A0_2 l0_2.length c0_2, .func (.func 51) #[] #[.pointer (some ⟨gbz2, 0, none⟩)]] rfl (by (try simp only [List.map_toArray, List.map_cons, List.map_nil]) <;> rfl) ?_; (with_reducible refine (ideal_find_51.calls _ _ l0_2 a1 tz15 tz16 true _ ?side1 ?side2 ?side3 A41.out).mono ?_); (case side1 => repeat (first | exact (Kd.C_below HR0_2.out HB.out) | (with_reducible refine Kd.C_alloc ?_ _) | (with_reducible refine Kd.C_drewN ?_ _) | (with_reducible refine Kd.C_drew ?_))); (case side2 => exact HC0_2.out); (case side3 => exact by (with_reducible repeat (first | refine blk_drewN ?_ _ | refine bkD ?_ | refine bkA ?_ _)); exact BKz2.out); rintro e w47 ⟨rfl, hb⟩; refine ⟨_, rfl, ?_⟩; have n0_ := am (Kd.R_below (pr HO_z14002) hb); have n1_ := am (Kd.R_below (pr HO_z14003) hb); have n2_ := am (bkB (pk BKz1) hb); have n3_ := am (bkB (pk BKz2) hb); have n4_ := am (bkB (g := gbz3) (o := .cells #[.string (⟨#[]⟩ : ByteArray), .int .i64 0, .slice none 0 0, .slice none 0 0, .bool false] 50 (0, 0)) (pk BKz3) hb); have n5_ := am (bkB (pk BKz13) hb); have n6_ := am (below_step (sC_ HB) hb); clear HO_z14002; clear HO_z14003; clear BKz1; clear BKz2; clear BKz3; clear BKz13; clear HB; have HO_z14002 := n0_; have HO_z14003 := n1_; have BKz1 := n2_; have BKz2 := n3_; have BKz3 := n4_; have BKz13 := n5_; have HB := n6_; clear n0_ n1_ n2_ n3_ n4_ n5_ n6_; (try clear hi)) | ((with_reducible refine gate_dst (N := 8) rfl ?_); (try (refine gate_guard (by rfl) ?_; dsimp only)); refine box_event ?hg (N := 8) ?hd (cs := #[.string (⟨#[]⟩ : ByteArray), .string (⟨#[]⟩ : ByteArray)]) (t := 72) ?hr ?_; (case hd => rfl); (case hg => rfl); (case hr => first | (go_simp; done) | (go_simp; rfl)); intro gbz18 hg w48 hbox hb; have n0_ := am (Kd.R_below (Kd.R_elderB (pr HO_z14002) gbz18 (Nat.le_of_eq hg.symm)) hb); have n1_ := am (Kd.R_below (pr HO_z14003) hb); have n2_ := am (bkB (pk BKz1) hb); have n3_ := am (bkB (pk BKz2) hb); have n4_ := am (bkB (g := gbz3) (o := .cells #[.string (⟨#[]⟩ : ByteArray), .int .i64 0, .slice none 0 0, .slice none 0 0, .bool false] 50 (0, 0)) (pk BKz3) hb); have n5_ := am (bkB (pk BKz13) hb); have n6_ := am (below_step (sC_ HB) hb); have n7_ := am (hbox); have n8_ := ge_ hg (sC_ HB); have n9_ := ge_ hg (sC_ HB); have n10_ := nl_ hg BKz1; have n11_ := ng_ hg BKz1; have n12_ := nl_ hg BKz2; have n13_ := ng_ hg BKz2; have n14_ := am ((by rw [hg]; exact Nat.ne_of_lt (blk_lt (g := gbz3) (o := .cells #[.string (⟨#[]⟩ : ByteArray), .int .i64 0, .slice none 0 0, .slice none 0 0, .bool false] 50 (0, 0)) (pk BKz3)) : gbz3 ≠ gbz18)); have n15_ := am ((by rw [hg]; exact Nat.ne_of_gt (blk_lt (g := gbz3) (o := .cells #[.string (⟨#[]⟩ : ByteArray), .int .i64 0, .slice none 0 0, .slice none 0 0, .bool false] 50 (0, 0)) (pk BKz3)) : gbz18 ≠ gbz3)); have n16_ := nl_ hg BKz13; have n17_ := ng_ hg BKz13; clear HO_z14002; clear HO_z14003; clear BKz1; clear BKz2; clear BKz3; clear BKz13; clear HB; have HO_z14002 := n0_; have HO_z14003 := n1_; have BKz1 := n2_; have BKz2 := n3_; have BKz3 := n4_; have BKz13 := n5_; have HB := n6_; have BKz18 := n7_; have GWz18 := n8_; have GEz18 := n9_; have NBz1_z18 := n10_; have NBz18_z1 := n11_; have NBz2_z18 := n12_; have NBz18_z2 := n13_; have NBz3_z18 := n14_; have NBz18_z3 := n15_; have NBz13_z18 := n16_; have NBz18_z13 := n17_; clear n0_ n1_ n2_ n3_ n4_ n5_ n6_ n7_ n8_ n9_ n10_ n11_ n12_ n13_ n14_ n15_ n16_ n17_; clear hb hbox hg; have hnb49 := NBz18_z1.out; have hnc49 := NBz1_z18.out; have hnb50 := NBz18_z2.out; have hnc50 := NBz2_z18.out; have hnb51 := NBz18_z3.out; have hnc51 := NBz3_z18.out; have hnb52 := NBz18_z13.out; have hnc52 := NBz13_z18.out; obtain ⟨hcz53_0, hcz53_1⟩ := bc2 BKz18; obtain ⟨hfz53_0, hfz53_1⟩ := bf2 BKz18))
  have n0_ : Aside0 (Kd.R k72 72 ((w48.setCell ⟨gbz18, 0, none⟩ (.string tz15)).setCell ⟨gbz18, 1, none⟩ (.string tz16)) w.heap.size (fun k_ => k_ ≠ gbz18) (.slice Ao17 tz6.length co17) tz6) := ⟨by (with_reducible repeat first | apply ra | apply rn | apply rd); exact Kd.R_mono (rf2 (Kd.R_mono HO_z14002.out (fun k_ hk => (⟨hk, hk.2⟩ : _ ∧ k_ ≠ gbz18))) (fun _ hk => hk.2)) (fun _ hk => hk.1.2)⟩
  have n1_ : Aside0 (Kd.R k74 74 ((w48.setCell ⟨gbz18, 0, none⟩ (.string tz15)).setCell ⟨gbz18, 1, none⟩ (.string tz16)) w.heap.size (fun _ => True) (.slice Ao18 tz9.length co18) tz9) := ⟨by (with_reducible repeat first | apply ra | apply rn | apply rd); exact Kd.R_mono (rf2 (Kd.R_types HO_z14003.out BKz18.out (by decide)) (fun _ hk => hk.2)) (fun _ hk => trivial)⟩
  have n2_ : Aside0 (((w48.setCell ⟨gbz18, 0, none⟩ (.string tz15)).setCell ⟨gbz18, 1, none⟩ (.string tz16)).heap[gbz1]? = some (.cells #[.string a0_0, .int .i64 a0_1, .slice A0_2 l0_2.length c0_2, .slice A0_3 l0_3.length c0_3, .bool a0_4] 50 (0, 0))) := ⟨by (with_reducible repeat (first | refine blk_drewN ?_ _ | refine bkD ?_ | refine bkA ?_ _)); refine blk_far ?_ NBz1_z18.out _; refine blk_far ?_ NBz1_z18.out _; (with_reducible repeat (first | refine blk_drewN ?_ _ | refine bkD ?_ | refine bkA ?_ _)); exact BKz1.out⟩
  have n3_ : Aside0 (((w48.setCell ⟨gbz18, 0, none⟩ (.string tz15)).setCell ⟨gbz18, 1, none⟩ (.string tz16)).heap[gbz2]? = some (.cells #[.string a1] 9 (0, 0))) := ⟨by (with_reducible repeat (first | refine blk_drewN ?_ _ | refine bkD ?_ | refine bkA ?_ _)); refine blk_far ?_ NBz2_z18.out _; refine blk_far ?_ NBz2_z18.out _; (with_reducible repeat (first | refine blk_drewN ?_ _ | refine bkD ?_ | refine bkA ?_ _)); exact BKz2.out⟩
  have n4_ : Aside0 (((w48.setCell ⟨gbz18, 0, none⟩ (.string tz15)).setCell ⟨gbz18, 1, none⟩ (.string tz16)).heap[gbz3]? = some (.cells #[.string (⟨#[]⟩ : ByteArray), .int .i64 0, .slice none 0 0, .slice none 0 0, .bool false] 50 (0, 0))) := ⟨by (with_reducible repeat (first | refine blk_drewN ?_ _ | refine bkD ?_ | refine bkA ?_ _)); refine blk_far ?_ NBz3_z18.out _; refine blk_far ?_ NBz3_z18.out _; (with_reducible repeat (first | refine blk_drewN ?_ _ | refine bkD ?_ | refine bkA ?_ _)); exact BKz3.out⟩
  have n5_ : Aside0 (((w48.setCell ⟨gbz18, 0, none⟩ (.string tz15)).setCell ⟨gbz18, 1, none⟩ (.string tz16)).heap[gbz13]? = some (.cells #[.string tz4, .int .i64 tz5, .slice Ao17 tz6.length co17, .slice Ao18 tz9.length co18, .bool tz12] 50 (0, 0))) := ⟨by (with_reducible repeat (first | refine blk_drewN ?_ _ | refine bkD ?_ | refine bkA ?_ _)); refine blk_far ?_ NBz13_z18.out _; refine blk_far ?_ NBz13_z18.out _; (with_reducible repeat (first | refine blk_drewN ?_ _ | refine bkD ?_ | refine bkA ?_ _)); exact BKz13.out⟩
  have n6_ : Aside0 (((w48.setCell ⟨gbz18, 0, none⟩ (.string tz15)).setCell ⟨gbz18, 1, none⟩ (.string tz16)).heap[gbz18]? = some (.cells #[.string tz15, .string tz16] 72 (0, 0))) := ⟨by (with_reducible repeat (first | refine blk_drewN ?_ _ | refine bkD ?_ | refine bkA ?_ _)); apply bp2; (with_reducible repeat (first | refine blk_drewN ?_ _ | refine bkD ?_ | refine bkA ?_ _)); exact BKz18.out⟩
  have n7_ : Aside0 (Below w.heap.size w ((w48.setCell ⟨gbz18, 0, none⟩ (.string tz15)).setCell ⟨gbz18, 1, none⟩ (.string tz16))) := (sB_ HB)
  (try clear HO_z14002); (try clear HO_z14003); (try clear BKz1); (try clear BKz2); (try clear BKz3); (try clear BKz13); (try clear BKz18); (try clear HB)
  generalize ((w48.setCell ⟨gbz18, 0, none⟩ (.string tz15)).setCell ⟨gbz18, 1, none⟩ (.string tz16)) = w54 at n0_ n1_ n2_ n3_ n4_ n5_ n6_ n7_ ⊢
  have HO_z14002 := n0_; have HO_z14003 := n1_; have BKz1 := n2_; have BKz2 := n3_; have BKz3 := n4_; have BKz13 := n5_; have BKz18 := n6_; have HB := n7_; clear n0_ n1_ n2_ n3_ n4_ n5_ n6_ n7_
  have n0_ := am (Kd.R_drew HO_z14002.out)
  have n1_ := am (Kd.R_drew HO_z14003.out)
  have n2_ := am (bkD BKz1.out)
  have n3_ := am (bkD BKz2.out)
  have n4_ := am (bkD BKz3.out)
  have n5_ := am (bkD BKz13.out)
  have n6_ := am (bkD BKz18.out)
  have n7_ := am (below_drew1 HB.out)
  clear HO_z14002 HO_z14003 BKz1 BKz2 BKz3 BKz13 BKz18 HB; have HO_z14002 := n0_; have HO_z14003 := n1_; have BKz1 := n2_; have BKz2 := n3_; have BKz3 := n4_; have BKz13 := n5_; have BKz18 := n6_; have HB := n7_; clear n0_ n1_ n2_ n3_ n4_ n5_ n6_ n7_
  refine start_ (n := 6) (S := fun w' => w'.cell? ⟨gbz18, 0, none⟩ = some (.string tz15) ∧ w'.cell? ⟨gbz18, 1, none⟩ = some (.string tz16) ∧ w'.cell? ⟨gbz13, 0, none⟩ = some (.string tz4) ∧ w'.cell? ⟨gbz13, 1, none⟩ = some (.int .i64 tz5) ∧ w'.cell? ⟨gbz13, 2, none⟩ = some (.slice Ao17 tz6.length co17) ∧ w'.cell? ⟨gbz13, 3, none⟩ = some (.slice Ao18 tz9.length co18) ∧ w'.cell? ⟨gbz13, 4, none⟩ = some (.bool tz12)) (ds := []) #[false, false, false, false, false, false] (by kernel_rfl) rfl rfl ⟨(blk_cell BKz18.out 0).trans rfl, (blk_cell BKz18.out 1).trans rfl, (blk_cell BKz13.out 0).trans rfl, (blk_cell BKz13.out 1).trans rfl, (blk_cell BKz13.out 2).trans rfl, (blk_cell BKz13.out 3).trans rfl, (blk_cell BKz13.out 4).trans rfl⟩ (fun hHeld => ?_)
  generalize w54.drew = w55 at HO_z14002 HO_z14003 BKz1 BKz2 BKz3 BKz13 BKz18 HB hHeld ⊢
  refine pn_ 0 (some 32) rfl rfl (.inl ⟨by rfl, by intro w'; go_simp; with_reducible rfl⟩) (by simp only [Act.put, sa_, s0_, s1_, i64_w, i32_w]; rfl) ?_
  refine tn_ 1 (some 33) rfl rfl (.inl ⟨by rfl, by rintro w' ⟨s0, s1, s2, s3, s4, s5, s6⟩; go_simp; with_reducible rfl⟩) hHeld (by simp only [Act.put, sa_, s0_, s1_, i64_w, i32_w]; rfl) ?_
  refine pn_ 3 (some 4) rfl rfl (.inl ⟨by rfl, by intro w'; go_simp; with_reducible rfl⟩) (by simp only [Act.put, sa_, s0_, s1_, i64_w, i32_w]; rfl) ?_
  refine tn_ 2 (some 34) rfl rfl (.inl ⟨by rfl, by rintro w' ⟨s0, s1, s2, s3, s4, s5, s6⟩; go_simp; with_reducible rfl⟩) hHeld (by simp only [Act.put, sa_, s0_, s1_, i64_w, i32_w]; rfl) ?_
  refine one_ (i := 4) (N := none) #[true, true, true, true, true, false] rfl rfl (by kernel_rfl) (by decide) (fun K hK => ?_)
  have hs56 : w55.cell? ⟨gbz3, 0, none⟩ = some (.string (⟨#[]⟩ : ByteArray)) := (blk_cell BKz3.out 0).trans rfl
  have hfs56 := blk_frozen BKz3.out 0
  have := NBz1_z3.out
  have := NBz2_z3.out
  have := NBz13_z3.out
  have := NBz18_z3.out
  have := NBz3_z1.out
  have := NBz3_z2.out
  have := NBz3_z13.out
  have := NBz3_z18.out
  have hs57 : w55.cell? ⟨gbz3, 1, none⟩ = some (.int .i64 0) := (blk_cell BKz3.out 1).trans rfl
  have hfs57 := blk_frozen BKz3.out 1
  have := NBz1_z3.out
  have := NBz2_z3.out
  have := NBz13_z3.out
  have := NBz18_z3.out
  have := NBz3_z1.out
  have := NBz3_z2.out
  have := NBz3_z13.out
  have := NBz3_z18.out
  have hs58 : w55.cell? ⟨gbz3, 2, none⟩ = some (.slice none 0 0) := (blk_cell BKz3.out 2).trans rfl
  have hfs58 := blk_frozen BKz3.out 2
  have := NBz1_z3.out
  have := NBz2_z3.out
  have := NBz13_z3.out
  have := NBz18_z3.out
  have := NBz3_z1.out
  have := NBz3_z2.out
  have := NBz3_z13.out
  have := NBz3_z18.out
  have hs59 : w55.cell? ⟨gbz3, 3, none⟩ = some (.slice none 0 0) := (blk_cell BKz3.out 3).trans rfl
  have hfs59 := blk_frozen BKz3.out 3
  have := NBz1_z3.out
  have := NBz2_z3.out
  have := NBz13_z3.out
  have := NBz18_z3.out
  have := NBz3_z1.out
  have := NBz3_z2.out
  have := NBz3_z13.out
  have := NBz3_z18.out
  have hs60 : w55.cell? ⟨gbz3, 4, none⟩ = some (.bool false) := (blk_cell BKz3.out 4).trans rfl
  have hfs60 := blk_frozen BKz3.out 4
  have := NBz1_z3.out
  have := NBz2_z3.out
  have := NBz13_z3.out
  have := NBz18_z3.out
  have := NBz3_z1.out
  have := NBz3_z2.out
  have := NBz3_z13.out
  have := NBz3_z18.out
  refine skip_ (by rfl) rfl (by go_simp; rfl) ?_
  refine hK.out _ _ ⟨((cf5 NBz18_z3).trans (hHeld.1)), ((cf5 NBz18_z3).trans (hHeld.2.1)), ((cf5 NBz13_z3).trans (hHeld.2.2.1)), ((cf5 NBz13_z3).trans (hHeld.2.2.2.1)), ((cf5 NBz13_z3).trans (hHeld.2.2.2.2.1)), ((cf5 NBz13_z3).trans (hHeld.2.2.2.2.2.1)), ((cf5 NBz13_z3).trans (hHeld.2.2.2.2.2.2))⟩ (fun hHeld => ?_)
  clear hK K
  refine pn_ 5 (some 6) rfl rfl (.inl ⟨by rfl, by intro w'; go_simp; with_reducible rfl⟩) (by simp only [Act.put, sa_, s0_, s1_, i64_w, i32_w]; rfl) ?_
  refine done_ (by kernel_rfl) ?_
  try go_wp2
  refine bodyPost_ret (results_list (rs := [.tmp 4, .cell 5 50, .tmp 6]) rfl (by simp) (.tmp (.cell gbz3 50 #[.string tz4, .int .i64 tz5, .slice Ao17 tz6.length co17, .slice Ao18 tz9.length co18, .bool tz12] (0, 0) _ rfl (by (with_reducible repeat (first | refine blk_drewN ?_ _ | refine bkD ?_ | refine bkA ?_ _)); apply bp5; exact pk BKz3) Try.underlying50 rfl (by kernel_rfl) (.tmp .nil)))) rfl ?_
  exact ⟨_, _, by first | rfl | (simp <;> rfl) | (simp [*] <;> rfl), by (with_reducible repeat first | apply ra | apply rn | apply rd); exact Kd.R_mono (rf5 (Kd.R_types HO_z14002.out BKz3.out (by decide)) (fun _ hk => hk.2)) (fun _ hk => trivial), by (with_reducible repeat first | apply ra | apply rn | apply rd); exact Kd.R_mono (rf5 (Kd.R_types HO_z14003.out BKz3.out (by decide)) (fun _ hk => hk.2)) (fun _ hk => trivial), sC_ HB⟩
 replace c42 := Bool.eq_false_iff.mpr c42
 subst c42
 have H1 : (if (l0_2.length : Int) = 2000 then (some ((⟨#[]⟩ : ByteArray), tz4, tz5, tz6, tz9, tz12, 2)) else ((tape_Take.f kj3 a0_0 a0_1 16).bind fun btz19 => (if btz19.2.2.2 = 0 then ((ideal_own.f a0_0 a0_1 l0_2 l0_3 a0_4).bind fun btz24 => (if btz24.2.2.1.length < 4398046511104 then ((some (btz24.2.2.1 ++ [(⟨a1, btz19.1⟩ : S72)] : List (S72))).bind fun yz33 => ((ideal_clash.f btz19.2.1 btz19.2.2.1 yz33 btz24.2.2.2.1 btz24.2.2.2.2).bind fun tz36 => (some (btz19.1, btz19.2.1, btz19.2.2.1, yz33, btz24.2.2.2.1, tz36, 0)))) else (none))) else (some ((⟨#[]⟩ : ByteArray), tz4, tz5, tz6, tz9, tz12, btz19.2.2.2))))) = some (r1, r2, r3, r4, r5, r6, r7) := by rw [if_neg (show ¬ (false = true) by decide)] at H; exact H
 clear H
 have H := H1
 clear H1
 by_cases c61 : (l0_2.length : Int) = 2000
 ·rw [if_pos c61] at H
  have c61b0 : ((l0_2.length : Int) == 2000) = true := beq_iff_eq.mpr c61
  have c61b1 : ((l0_2.length : Int) != 2000) = false := bne_eq_false_iff_eq.mpr c61
  clear c61
  simp only [Option.some.injEq, Prod.mk.injEq] at H
  obtain ⟨rfl, rfl, rfl, rfl, rfl, rfl, rfl⟩ := H
  have hnb62 := NBz1_z2.out
  have hnc62 := NBz2_z1.out
  have hnb63 := NBz1_z3.out
  have hnc63 := NBz3_z1.out
  have hnb64 := NBz1_z13.out
  have hnc64 := NBz13_z1.out
  obtain ⟨hcz65_0, hcz65_1, hcz65_2, hcz65_3, hcz65_4⟩ := bc5 BKz1
  obtain ⟨hfz65_0, hfz65_1, hfz65_2, hfz65_3, hfz65_4⟩ := bf5 BKz1
  try go_wp2_with (first | ((with_reducible refine gate_callee (f := 50) rfl ?_); refine goesL_ (some 28) rfl rfl Try.func50 (by kernel_rfl) rfl #[.slice A0_2 l0_2.length c0_2, .func (.func 51) #[] #[.pointer (some ⟨gbz2, 0, none⟩)]] rfl (by (try simp only [List.map_toArray, List.map_cons, List.map_nil]) <;> rfl) ?_; (with_reducible refine (ideal_find_51.calls _ _ l0_2 a1 tz15 tz16 false _ ?side1 ?side2 ?side3 A41.out).mono ?_); (case side1 => repeat (first | exact (Kd.C_below HR0_2.out HB.out) | (with_reducible refine Kd.C_alloc ?_ _) | (with_reducible refine Kd.C_drewN ?_ _) | (with_reducible refine Kd.C_drew ?_))); (case side2 => exact HC0_2.out); (case side3 => exact by (with_reducible repeat (first | refine blk_drewN ?_ _ | refine bkD ?_ | refine bkA ?_ _)); exact BKz2.out); rintro e w66 ⟨rfl, hb⟩; refine ⟨_, rfl, ?_⟩; have n0_ := am (Kd.R_below (pr HO_z14002) hb); have n1_ := am (Kd.R_below (pr HO_z14003) hb); have n2_ := am (bkB (pk BKz1) hb); have n3_ := am (bkB (pk BKz2) hb); have n4_ := am (bkB (g := gbz3) (o := .cells #[.string (⟨#[]⟩ : ByteArray), .int .i64 0, .slice none 0 0, .slice none 0 0, .bool false] 50 (0, 0)) (pk BKz3) hb); have n5_ := am (bkB (pk BKz13) hb); have n6_ := am (below_step (sC_ HB) hb); clear HO_z14002; clear HO_z14003; clear BKz1; clear BKz2; clear BKz3; clear BKz13; clear HB; have HO_z14002 := n0_; have HO_z14003 := n1_; have BKz1 := n2_; have BKz2 := n3_; have BKz3 := n4_; have BKz13 := n5_; have HB := n6_; clear n0_ n1_ n2_ n3_ n4_ n5_ n6_; (try clear hi)) | ((with_reducible refine gate_dst (N := 8) rfl ?_); (try (refine gate_guard (by rfl) ?_; dsimp only)); refine box_event ?hg (N := 8) ?hd (cs := #[.string (⟨#[]⟩ : ByteArray), .string (⟨#[]⟩ : ByteArray)]) (t := 72) ?hr ?_; (case hd => rfl); (case hg => rfl); (case hr => first | (go_simp; done) | (go_simp; rfl)); intro gbz18 hg w67 hbox hb; have n0_ := am (Kd.R_below (Kd.R_elderB (pr HO_z14002) gbz18 (Nat.le_of_eq hg.symm)) hb); have n1_ := am (Kd.R_below (pr HO_z14003) hb); have n2_ := am (bkB (pk BKz1) hb); have n3_ := am (bkB (pk BKz2) hb); have n4_ := am (bkB (g := gbz3) (o := .cells #[.string (⟨#[]⟩ : ByteArray), .int .i64 0, .slice none 0 0, .slice none 0 0, .bool false] 50 (0, 0)) (pk BKz3) hb); have n5_ := am (bkB (pk BKz13) hb); have n6_ := am (below_step (sC_ HB) hb); have n7_ := am (hbox); have n8_ := ge_ hg (sC_ HB); have n9_ := ge_ hg (sC_ HB); have n10_ := nl_ hg BKz1; have n11_ := ng_ hg BKz1; have n12_ := nl_ hg BKz2; have n13_ := ng_ hg BKz2; have n14_ := am ((by rw [hg]; exact Nat.ne_of_lt (blk_lt (g := gbz3) (o := .cells #[.string (⟨#[]⟩ : ByteArray), .int .i64 0, .slice none 0 0, .slice none 0 0, .bool false] 50 (0, 0)) (pk BKz3)) : gbz3 ≠ gbz18)); have n15_ := am ((by rw [hg]; exact Nat.ne_of_gt (blk_lt (g := gbz3) (o := .cells #[.string (⟨#[]⟩ : ByteArray), .int .i64 0, .slice none 0 0, .slice none 0 0, .bool false] 50 (0, 0)) (pk BKz3)) : gbz18 ≠ gbz3)); have n16_ := nl_ hg BKz13; have n17_ := ng_ hg BKz13; clear HO_z14002; clear HO_z14003; clear BKz1; clear BKz2; clear BKz3; clear BKz13; clear HB; have HO_z14002 := n0_; have HO_z14003 := n1_; have BKz1 := n2_; have BKz2 := n3_; have BKz3 := n4_; have BKz13 := n5_; have HB := n6_; have BKz18 := n7_; have GWz18 := n8_; have GEz18 := n9_; have NBz1_z18 := n10_; have NBz18_z1 := n11_; have NBz2_z18 := n12_; have NBz18_z2 := n13_; have NBz3_z18 := n14_; have NBz18_z3 := n15_; have NBz13_z18 := n16_; have NBz18_z13 := n17_; clear n0_ n1_ n2_ n3_ n4_ n5_ n6_ n7_ n8_ n9_ n10_ n11_ n12_ n13_ n14_ n15_ n16_ n17_; clear hb hbox hg; have hnb68 := NBz18_z1.out; have hnc68 := NBz1_z18.out; have hnb69 := NBz18_z2.out; have hnc69 := NBz2_z18.out; have hnb70 := NBz18_z3.out; have hnc70 := NBz3_z18.out; have hnb71 := NBz18_z13.out; have hnc71 := NBz13_z18.out; obtain ⟨hcz72_0, hcz72_1⟩ := bc2 BKz18; obtain ⟨hfz72_0, hfz72_1⟩ := bf2 BKz18; obtain ⟨hcz73_0, hcz73_1, hcz73_2, hcz73_3, hcz73_4⟩ := bc5 BKz1; obtain ⟨hfz73_0, hfz73_1, hfz73_2, hfz73_3, hfz73_4⟩ := bf5 BKz1))
  have n0_ : Aside0 (Kd.R k72 72 ((w67.setCell ⟨gbz18, 0, none⟩ (.string tz15)).setCell ⟨gbz18, 1, none⟩ (.string tz16)) w.heap.size (fun k_ => k_ ≠ gbz18) (.slice Ao17 tz6.length co17) tz6) := ⟨by (with_reducible repeat first | apply ra | apply rn | apply rd); exact Kd.R_mono (rf2 (Kd.R_mono HO_z14002.out (fun k_ hk => (⟨hk, hk.2⟩ : _ ∧ k_ ≠ gbz18))) (fun _ hk => hk.2)) (fun _ hk => hk.1.2)⟩
  have n1_ : Aside0 (Kd.R k74 74 ((w67.setCell ⟨gbz18, 0, none⟩ (.string tz15)).setCell ⟨gbz18, 1, none⟩ (.string tz16)) w.heap.size (fun _ => True) (.slice Ao18 tz9.length co18) tz9) := ⟨by (with_reducible repeat first | apply ra | apply rn | apply rd); exact Kd.R_mono (rf2 (Kd.R_types HO_z14003.out BKz18.out (by decide)) (fun _ hk => hk.2)) (fun _ hk => trivial)⟩
  have n2_ : Aside0 (((w67.setCell ⟨gbz18, 0, none⟩ (.string tz15)).setCell ⟨gbz18, 1, none⟩ (.string tz16)).heap[gbz1]? = some (.cells #[.string a0_0, .int .i64 a0_1, .slice A0_2 l0_2.length c0_2, .slice A0_3 l0_3.length c0_3, .bool a0_4] 50 (0, 0))) := ⟨by (with_reducible repeat (first | refine blk_drewN ?_ _ | refine bkD ?_ | refine bkA ?_ _)); refine blk_far ?_ NBz1_z18.out _; refine blk_far ?_ NBz1_z18.out _; (with_reducible repeat (first | refine blk_drewN ?_ _ | refine bkD ?_ | refine bkA ?_ _)); exact BKz1.out⟩
  have n3_ : Aside0 (((w67.setCell ⟨gbz18, 0, none⟩ (.string tz15)).setCell ⟨gbz18, 1, none⟩ (.string tz16)).heap[gbz2]? = some (.cells #[.string a1] 9 (0, 0))) := ⟨by (with_reducible repeat (first | refine blk_drewN ?_ _ | refine bkD ?_ | refine bkA ?_ _)); refine blk_far ?_ NBz2_z18.out _; refine blk_far ?_ NBz2_z18.out _; (with_reducible repeat (first | refine blk_drewN ?_ _ | refine bkD ?_ | refine bkA ?_ _)); exact BKz2.out⟩
  have n4_ : Aside0 (((w67.setCell ⟨gbz18, 0, none⟩ (.string tz15)).setCell ⟨gbz18, 1, none⟩ (.string tz16)).heap[gbz3]? = some (.cells #[.string (⟨#[]⟩ : ByteArray), .int .i64 0, .slice none 0 0, .slice none 0 0, .bool false] 50 (0, 0))) := ⟨by (with_reducible repeat (first | refine blk_drewN ?_ _ | refine bkD ?_ | refine bkA ?_ _)); refine blk_far ?_ NBz3_z18.out _; refine blk_far ?_ NBz3_z18.out _; (with_reducible repeat (first | refine blk_drewN ?_ _ | refine bkD ?_ | refine bkA ?_ _)); exact BKz3.out⟩
  have n5_ : Aside0 (((w67.setCell ⟨gbz18, 0, none⟩ (.string tz15)).setCell ⟨gbz18, 1, none⟩ (.string tz16)).heap[gbz13]? = some (.cells #[.string tz4, .int .i64 tz5, .slice Ao17 tz6.length co17, .slice Ao18 tz9.length co18, .bool tz12] 50 (0, 0))) := ⟨by (with_reducible repeat (first | refine blk_drewN ?_ _ | refine bkD ?_ | refine bkA ?_ _)); refine blk_far ?_ NBz13_z18.out _; refine blk_far ?_ NBz13_z18.out _; (with_reducible repeat (first | refine blk_drewN ?_ _ | refine bkD ?_ | refine bkA ?_ _)); exact BKz13.out⟩
  have n6_ : Aside0 (((w67.setCell ⟨gbz18, 0, none⟩ (.string tz15)).setCell ⟨gbz18, 1, none⟩ (.string tz16)).heap[gbz18]? = some (.cells #[.string tz15, .string tz16] 72 (0, 0))) := ⟨by (with_reducible repeat (first | refine blk_drewN ?_ _ | refine bkD ?_ | refine bkA ?_ _)); apply bp2; (with_reducible repeat (first | refine blk_drewN ?_ _ | refine bkD ?_ | refine bkA ?_ _)); exact BKz18.out⟩
  have n7_ : Aside0 (Below w.heap.size w ((w67.setCell ⟨gbz18, 0, none⟩ (.string tz15)).setCell ⟨gbz18, 1, none⟩ (.string tz16))) := (sB_ HB)
  (try clear HO_z14002); (try clear HO_z14003); (try clear BKz1); (try clear BKz2); (try clear BKz3); (try clear BKz13); (try clear BKz18); (try clear HB)
  generalize ((w67.setCell ⟨gbz18, 0, none⟩ (.string tz15)).setCell ⟨gbz18, 1, none⟩ (.string tz16)) = w74 at n0_ n1_ n2_ n3_ n4_ n5_ n6_ n7_ ⊢
  have HO_z14002 := n0_; have HO_z14003 := n1_; have BKz1 := n2_; have BKz2 := n3_; have BKz3 := n4_; have BKz13 := n5_; have BKz18 := n6_; have HB := n7_; clear n0_ n1_ n2_ n3_ n4_ n5_ n6_ n7_
  have n0_ := am (Kd.R_drew HO_z14002.out)
  have n1_ := am (Kd.R_drew HO_z14003.out)
  have n2_ := am (bkD BKz1.out)
  have n3_ := am (bkD BKz2.out)
  have n4_ := am (bkD BKz3.out)
  have n5_ := am (bkD BKz13.out)
  have n6_ := am (bkD BKz18.out)
  have n7_ := am (below_drew1 HB.out)
  clear HO_z14002 HO_z14003 BKz1 BKz2 BKz3 BKz13 BKz18 HB; have HO_z14002 := n0_; have HO_z14003 := n1_; have BKz1 := n2_; have BKz2 := n3_; have BKz3 := n4_; have BKz13 := n5_; have BKz18 := n6_; have HB := n7_; clear n0_ n1_ n2_ n3_ n4_ n5_ n6_ n7_
  refine start_ (n := 4) (S := fun w' => w'.cell? ⟨gbz13, 0, none⟩ = some (.string tz4) ∧ w'.cell? ⟨gbz13, 1, none⟩ = some (.int .i64 tz5) ∧ w'.cell? ⟨gbz13, 2, none⟩ = some (.slice Ao17 tz6.length co17) ∧ w'.cell? ⟨gbz13, 3, none⟩ = some (.slice Ao18 tz9.length co18) ∧ w'.cell? ⟨gbz13, 4, none⟩ = some (.bool tz12)) (ds := []) #[false, false, false, false] (by kernel_rfl) rfl rfl (bc5 BKz13) (fun hHeld => ?_)
  generalize w74.drew = w75 at HO_z14002 HO_z14003 BKz1 BKz2 BKz3 BKz13 BKz18 HB hHeld ⊢
  refine pn_ 1 (some 4) rfl rfl (.inl ⟨by rfl, by intro w'; go_simp; with_reducible rfl⟩) (by simp only [Act.put, sa_, s0_, s1_, i64_w, i32_w]; rfl) ?_
  refine tn_ 0 (some 39) rfl rfl (.inl ⟨by rfl, by rintro w' ⟨s0, s1, s2, s3, s4⟩; go_simp; with_reducible rfl⟩) hHeld (by simp only [Act.put, sa_, s0_, s1_, i64_w, i32_w]; rfl) ?_
  refine one_ (i := 2) (N := none) #[true, true, true, false] rfl rfl (by kernel_rfl) (by decide) (fun K hK => ?_)
  have hs76 : w75.cell? ⟨gbz3, 0, none⟩ = some (.string (⟨#[]⟩ : ByteArray)) := (blk_cell BKz3.out 0).trans rfl
  have hfs76 := blk_frozen BKz3.out 0
  have := NBz1_z3.out
  have := NBz2_z3.out
  have := NBz13_z3.out
  have := NBz18_z3.out
  have := NBz3_z1.out
  have := NBz3_z2.out
  have := NBz3_z13.out
  have := NBz3_z18.out
  have hs77 : w75.cell? ⟨gbz3, 1, none⟩ = some (.int .i64 0) := (blk_cell BKz3.out 1).trans rfl
  have hfs77 := blk_frozen BKz3.out 1
  have := NBz1_z3.out
  have := NBz2_z3.out
  have := NBz13_z3.out
  have := NBz18_z3.out
  have := NBz3_z1.out
  have := NBz3_z2.out
  have := NBz3_z13.out
  have := NBz3_z18.out
  have hs78 : w75.cell? ⟨gbz3, 2, none⟩ = some (.slice none 0 0) := (blk_cell BKz3.out 2).trans rfl
  have hfs78 := blk_frozen BKz3.out 2
  have := NBz1_z3.out
  have := NBz2_z3.out
  have := NBz13_z3.out
  have := NBz18_z3.out
  have := NBz3_z1.out
  have := NBz3_z2.out
  have := NBz3_z13.out
  have := NBz3_z18.out
  have hs79 : w75.cell? ⟨gbz3, 3, none⟩ = some (.slice none 0 0) := (blk_cell BKz3.out 3).trans rfl
  have hfs79 := blk_frozen BKz3.out 3
  have := NBz1_z3.out
  have := NBz2_z3.out
  have := NBz13_z3.out
  have := NBz18_z3.out
  have := NBz3_z1.out
  have := NBz3_z2.out
  have := NBz3_z13.out
  have := NBz3_z18.out
  have hs80 : w75.cell? ⟨gbz3, 4, none⟩ = some (.bool false) := (blk_cell BKz3.out 4).trans rfl
  have hfs80 := blk_frozen BKz3.out 4
  have := NBz1_z3.out
  have := NBz2_z3.out
  have := NBz13_z3.out
  have := NBz18_z3.out
  have := NBz3_z1.out
  have := NBz3_z2.out
  have := NBz3_z13.out
  have := NBz3_z18.out
  refine skip_ (by rfl) rfl (by go_simp; rfl) ?_
  refine hK.out _ _ ⟨((cf5 NBz13_z3).trans (hHeld.1)), ((cf5 NBz13_z3).trans (hHeld.2.1)), ((cf5 NBz13_z3).trans (hHeld.2.2.1)), ((cf5 NBz13_z3).trans (hHeld.2.2.2.1)), ((cf5 NBz13_z3).trans (hHeld.2.2.2.2))⟩ (fun hHeld => ?_)
  clear hK K
  refine pn_ 3 (some 6) rfl rfl (.inl ⟨by rfl, by intro w'; go_simp; with_reducible rfl⟩) (by simp only [Act.put, sa_, s0_, s1_, i64_w, i32_w]; rfl) ?_
  refine done_ (by kernel_rfl) ?_
  try go_wp2
  refine bodyPost_ret (results_list (rs := [.tmp 4, .cell 5 50, .tmp 6]) rfl (by simp) (.tmp (.cell gbz3 50 #[.string tz4, .int .i64 tz5, .slice Ao17 tz6.length co17, .slice Ao18 tz9.length co18, .bool tz12] (0, 0) _ rfl (by (with_reducible repeat (first | refine blk_drewN ?_ _ | refine bkD ?_ | refine bkA ?_ _)); apply bp5; exact pk BKz3) Try.underlying50 rfl (by kernel_rfl) (.tmp .nil)))) rfl ?_
  exact ⟨_, _, by first | rfl | (simp <;> rfl) | (simp [*] <;> rfl), by (with_reducible repeat first | apply ra | apply rn | apply rd); exact Kd.R_mono (rf5 (Kd.R_types HO_z14002.out BKz3.out (by decide)) (fun _ hk => hk.2)) (fun _ hk => trivial), by (with_reducible repeat first | apply ra | apply rn | apply rd); exact Kd.R_mono (rf5 (Kd.R_types HO_z14003.out BKz3.out (by decide)) (fun _ hk => hk.2)) (fun _ hk => trivial), sC_ HB⟩
 rw [if_neg c61] at H
 have c61b0 : ((l0_2.length : Int) == 2000) = false := beq_eq_false_iff_ne.mpr c61
 have c61b1 : ((l0_2.length : Int) != 2000) = true := bne_iff_ne.mpr c61
 replace H := ob_ H
 obtain ⟨⟨tz19, tz20, tz21, tz22⟩, A810, H⟩ := H
 replace H : (if tz22 = 0 then ((ideal_own.f a0_0 a0_1 l0_2 l0_3 a0_4).bind fun btz24 => (if btz24.2.2.1.length < 4398046511104 then ((some (btz24.2.2.1 ++ [(⟨a1, tz19⟩ : S72)] : List (S72))).bind fun yz33 => ((ideal_clash.f tz20 tz21 yz33 btz24.2.2.2.1 btz24.2.2.2.2).bind fun tz36 => (some (tz19, tz20, tz21, yz33, btz24.2.2.2.1, tz36, 0)))) else (none))) else (some ((⟨#[]⟩ : ByteArray), tz4, tz5, tz6, tz9, tz12, tz22))) = some (r1, r2, r3, r4, r5, r6, r7) := H
 have A81 := Aside0.mk A810
 clear A810
 by_cases c82 : tz22 = 0
 rotate_left
 ·rw [if_neg c82] at H
  have c82b0 : (tz22 == 0) = false := beq_eq_false_iff_ne.mpr c82
  have c82b1 : (tz22 != 0) = true := bne_iff_ne.mpr c82
  simp only [Option.some.injEq, Prod.mk.injEq] at H
  obtain ⟨rfl, rfl, rfl, rfl, rfl, rfl, rfl⟩ := H
  have hnb128 := NBz1_z2.out
  have hnc128 := NBz2_z1.out
  have hnb129 := NBz1_z3.out
  have hnc129 := NBz3_z1.out
  have hnb130 := NBz1_z13.out
  have hnc130 := NBz13_z1.out
  obtain ⟨hcz131_0, hcz131_1, hcz131_2, hcz131_3, hcz131_4⟩ := bc5 BKz1
  obtain ⟨hfz131_0, hfz131_1, hfz131_2, hfz131_3, hfz131_4⟩ := bf5 BKz1
  try go_wp2_with (first | ((with_reducible refine gate_callee (f := 50) rfl ?_); refine goesL_ (some 28) rfl rfl Try.func50 (by kernel_rfl) rfl #[.slice A0_2 l0_2.length c0_2, .func (.func 51) #[] #[.pointer (some ⟨gbz2, 0, none⟩)]] rfl (by (try simp only [List.map_toArray, List.map_cons, List.map_nil]) <;> rfl) ?_; (with_reducible refine (ideal_find_51.calls _ _ l0_2 a1 tz15 tz16 false _ ?side1 ?side2 ?side3 A41.out).mono ?_); (case side1 => repeat (first | exact (Kd.C_below HR0_2.out HB.out) | (with_reducible refine Kd.C_alloc ?_ _) | (with_reducible refine Kd.C_drewN ?_ _) | (with_reducible refine Kd.C_drew ?_))); (case side2 => exact HC0_2.out); (case side3 => exact by (with_reducible repeat (first | refine blk_drewN ?_ _ | refine bkD ?_ | refine bkA ?_ _)); exact BKz2.out); rintro e w132 ⟨rfl, hb⟩; refine ⟨_, rfl, ?_⟩; have n0_ := am (Kd.R_below (pr HO_z14002) hb); have n1_ := am (Kd.R_below (pr HO_z14003) hb); have n2_ := am (bkB (pk BKz1) hb); have n3_ := am (bkB (pk BKz2) hb); have n4_ := am (bkB (g := gbz3) (o := .cells #[.string (⟨#[]⟩ : ByteArray), .int .i64 0, .slice none 0 0, .slice none 0 0, .bool false] 50 (0, 0)) (pk BKz3) hb); have n5_ := am (bkB (pk BKz13) hb); have n6_ := am (below_step (sC_ HB) hb); clear HO_z14002; clear HO_z14003; clear BKz1; clear BKz2; clear BKz3; clear BKz13; clear HB; have HO_z14002 := n0_; have HO_z14003 := n1_; have BKz1 := n2_; have BKz2 := n3_; have BKz3 := n4_; have BKz13 := n5_; have HB := n6_; clear n0_ n1_ n2_ n3_ n4_ n5_ n6_; (try clear hi)) | ((with_reducible refine gate_dst (N := 8) rfl ?_); (try (refine gate_guard (by rfl) ?_; dsimp only)); refine box_event ?hg (N := 8) ?hd (cs := #[.string (⟨#[]⟩ : ByteArray), .string (⟨#[]⟩ : ByteArray)]) (t := 72) ?hr ?_; (case hd => rfl); (case hg => rfl); (case hr => first | (go_simp; done) | (go_simp; rfl)); intro gbz18 hg w133 hbox hb; have n0_ := am (Kd.R_below (Kd.R_elderB (pr HO_z14002) gbz18 (Nat.le_of_eq hg.symm)) hb); have n1_ := am (Kd.R_below (pr HO_z14003) hb); have n2_ := am (bkB (pk BKz1) hb); have n3_ := am (bkB (pk BKz2) hb); have n4_ := am (bkB (g := gbz3) (o := .cells #[.string (⟨#[]⟩ : ByteArray), .int .i64 0, .slice none 0 0, .slice none 0 0, .bool false] 50 (0, 0)) (pk BKz3) hb); have n5_ := am (bkB (pk BKz13) hb); have n6_ := am (below_step (sC_ HB) hb); have n7_ := am (hbox); have n8_ := ge_ hg (sC_ HB); have n9_ := ge_ hg (sC_ HB); have n10_ := nl_ hg BKz1; have n11_ := ng_ hg BKz1; have n12_ := nl_ hg BKz2; have n13_ := ng_ hg BKz2; have n14_ := am ((by rw [hg]; exact Nat.ne_of_lt (blk_lt (g := gbz3) (o := .cells #[.string (⟨#[]⟩ : ByteArray), .int .i64 0, .slice none 0 0, .slice none 0 0, .bool false] 50 (0, 0)) (pk BKz3)) : gbz3 ≠ gbz18)); have n15_ := am ((by rw [hg]; exact Nat.ne_of_gt (blk_lt (g := gbz3) (o := .cells #[.string (⟨#[]⟩ : ByteArray), .int .i64 0, .slice none 0 0, .slice none 0 0, .bool false] 50 (0, 0)) (pk BKz3)) : gbz18 ≠ gbz3)); have n16_ := nl_ hg BKz13; have n17_ := ng_ hg BKz13; clear HO_z14002; clear HO_z14003; clear BKz1; clear BKz2; clear BKz3; clear BKz13; clear HB; have HO_z14002 := n0_; have HO_z14003 := n1_; have BKz1 := n2_; have BKz2 := n3_; have BKz3 := n4_; have BKz13 := n5_; have HB := n6_; have BKz18 := n7_; have GWz18 := n8_; have GEz18 := n9_; have NBz1_z18 := n10_; have NBz18_z1 := n11_; have NBz2_z18 := n12_; have NBz18_z2 := n13_; have NBz3_z18 := n14_; have NBz18_z3 := n15_; have NBz13_z18 := n16_; have NBz18_z13 := n17_; clear n0_ n1_ n2_ n3_ n4_ n5_ n6_ n7_ n8_ n9_ n10_ n11_ n12_ n13_ n14_ n15_ n16_ n17_; clear hb hbox hg; have hnb134 := NBz18_z1.out; have hnc134 := NBz1_z18.out; have hnb135 := NBz18_z2.out; have hnc135 := NBz2_z18.out; have hnb136 := NBz18_z3.out; have hnc136 := NBz3_z18.out; have hnb137 := NBz18_z13.out; have hnc137 := NBz13_z18.out; obtain ⟨hcz138_0, hcz138_1⟩ := bc2 BKz18; obtain ⟨hfz138_0, hfz138_1⟩ := bf2 BKz18; obtain ⟨hcz139_0, hcz139_1, hcz139_2, hcz139_3, hcz139_4⟩ := bc5 BKz1; obtain ⟨hfz139_0, hfz139_1, hfz139_2, hfz139_3, hfz139_4⟩ := bf5 BKz1) | ((with_reducible refine gate_callee (f := 21) rfl ?_); refine goesL_ (some 43) rfl rfl Try.func21 (by kernel_rfl) rfl #[.agg #[.string a0_0, .int .i64 a0_1], .int .i64 16] rfl (by (try simp only [List.map_toArray, List.map_cons, List.map_nil]) <;> rfl) ?_; (with_reducible refine (tape_Take.calls kj3 a0_0 a0_1 16 tz19 tz20 tz21 tz22 _ A81.out).mono ?_); rintro e w140 ⟨rfl, hb⟩; refine ⟨_, rfl, ?_⟩; have n0_ := am (Kd.R_below (by (with_reducible repeat first | apply ra | apply rn | apply rd); exact (Kd.R_mono (rf2 (Kd.R_mono HO_z14002.out (fun k_ hk => (⟨hk, hk.2⟩ : _ ∧ k_ ≠ gbz18))) (fun _ hk => hk.2)) (fun _ h_ => h_.1))) hb); have n1_ := am (Kd.R_below (by (with_reducible repeat first | apply ra | apply rn | apply rd); exact (rs2 HO_z14003 BKz18 (by decide))) hb); have n2_ := am (bkB (g := gbz1) (o := .cells #[.string a0_0, .int .i64 a0_1, .slice A0_2 l0_2.length c0_2, .slice A0_3 l0_3.length c0_3, .bool a0_4] 50 (0, 0)) (by (with_reducible repeat (first | refine blk_drewN ?_ _ | refine bkD ?_ | refine bkA ?_ _)); refine blk_far ?_ NBz1_z18.out _; refine blk_far ?_ NBz1_z18.out _; exact pk BKz1) hb); have n3_ := am (bkB (g := gbz2) (o := .cells #[.string a1] 9 (0, 0)) (by (with_reducible repeat (first | refine blk_drewN ?_ _ | refine bkD ?_ | refine bkA ?_ _)); refine blk_far ?_ NBz2_z18.out _; refine blk_far ?_ NBz2_z18.out _; exact pk BKz2) hb); have n4_ := am (bkB (g := gbz3) (o := .cells #[.string (⟨#[]⟩ : ByteArray), .int .i64 0, .slice none 0 0, .slice none 0 0, .bool false] 50 (0, 0)) (by (with_reducible repeat (first | refine blk_drewN ?_ _ | refine bkD ?_ | refine bkA ?_ _)); refine blk_far ?_ NBz3_z18.out _; refine blk_far ?_ NBz3_z18.out _; exact pk BKz3) hb); have n5_ := am (bkB (g := gbz13) (o := .cells #[.string tz4, .int .i64 tz5, .slice Ao17 tz6.length co17, .slice Ao18 tz9.length co18, .bool tz12] 50 (0, 0)) (by (with_reducible repeat (first | refine blk_drewN ?_ _ | refine bkD ?_ | refine bkA ?_ _)); refine blk_far ?_ NBz13_z18.out _; refine blk_far ?_ NBz13_z18.out _; exact pk BKz13) hb); have n6_ := am (bkB (g := gbz18) (o := .cells #[.string tz15, .string tz16] 72 (0, 0)) (by (with_reducible repeat (first | refine blk_drewN ?_ _ | refine bkD ?_ | refine bkA ?_ _)); apply bp2; exact pk BKz18) hb); have n7_ := am (below_step (sC_ HB) hb); clear HO_z14002; clear HO_z14003; clear BKz1; clear BKz2; clear BKz3; clear BKz13; clear BKz18; clear HB; have HO_z14002 := n0_; have HO_z14003 := n1_; have BKz1 := n2_; have BKz2 := n3_; have BKz3 := n4_; have BKz13 := n5_; have BKz18 := n6_; have HB := n7_; clear n0_ n1_ n2_ n3_ n4_ n5_ n6_ n7_; (try clear hi)) | ((with_reducible refine gate_dst (N := 11) rfl ?_); (try (refine gate_guard (by rfl) ?_; dsimp only)); refine box_event ?hg (N := 11) ?hd (cs := #[.string (⟨#[]⟩ : ByteArray), .int .i64 0]) (t := 23) ?hr ?_; (case hd => rfl); (case hg => rfl); (case hr => first | (go_simp; done) | (go_simp; rfl)); intro gbz23 hg w141 hbox hb; have n0_ := am (Kd.R_below (pr HO_z14002) hb); have n1_ := am (Kd.R_below (pr HO_z14003) hb); have n2_ := am (bkB (pk BKz1) hb); have n3_ := am (bkB (pk BKz2) hb); have n4_ := am (bkB (g := gbz3) (o := .cells #[.string (⟨#[]⟩ : ByteArray), .int .i64 0, .slice none 0 0, .slice none 0 0, .bool false] 50 (0, 0)) (pk BKz3) hb); have n5_ := am (bkB (pk BKz13) hb); have n6_ := am (bkB (pk BKz18) hb); have n7_ := am (below_step (sC_ HB) hb); have n8_ := am (hbox); have n9_ := ge_ hg (sC_ HB); have n10_ := ge_ hg (sC_ HB); have n11_ := nl_ hg BKz1; have n12_ := ng_ hg BKz1; have n13_ := nl_ hg BKz2; have n14_ := ng_ hg BKz2; have n15_ := am ((by rw [hg]; exact Nat.ne_of_lt (blk_lt (g := gbz3) (o := .cells #[.string (⟨#[]⟩ : ByteArray), .int .i64 0, .slice none 0 0, .slice none 0 0, .bool false] 50 (0, 0)) (pk BKz3)) : gbz3 ≠ gbz23)); have n16_ := am ((by rw [hg]; exact Nat.ne_of_gt (blk_lt (g := gbz3) (o := .cells #[.string (⟨#[]⟩ : ByteArray), .int .i64 0, .slice none 0 0, .slice none 0 0, .bool false] 50 (0, 0)) (pk BKz3)) : gbz23 ≠ gbz3)); have n17_ := nl_ hg BKz13; have n18_ := ng_ hg BKz13; have n19_ := nl_ hg BKz18; have n20_ := ng_ hg BKz18; clear HO_z14002; clear HO_z14003; clear BKz1; clear BKz2; clear BKz3; clear BKz13; clear BKz18; clear HB; have HO_z14002 := n0_; have HO_z14003 := n1_; have BKz1 := n2_; have BKz2 := n3_; have BKz3 := n4_; have BKz13 := n5_; have BKz18 := n6_; have HB := n7_; have BKz23 := n8_; have GWz23 := n9_; have GEz23 := n10_; have NBz1_z23 := n11_; have NBz23_z1 := n12_; have NBz2_z23 := n13_; have NBz23_z2 := n14_; have NBz3_z23 := n15_; have NBz23_z3 := n16_; have NBz13_z23 := n17_; have NBz23_z13 := n18_; have NBz18_z23 := n19_; have NBz23_z18 := n20_; clear n0_ n1_ n2_ n3_ n4_ n5_ n6_ n7_ n8_ n9_ n10_ n11_ n12_ n13_ n14_ n15_ n16_ n17_ n18_ n19_ n20_; clear hb hbox hg; have hnb142 := NBz23_z1.out; have hnc142 := NBz1_z23.out; have hnb143 := NBz23_z2.out; have hnc143 := NBz2_z23.out; have hnb144 := NBz23_z3.out; have hnc144 := NBz3_z23.out; have hnb145 := NBz23_z13.out; have hnc145 := NBz13_z23.out; have hnb146 := NBz23_z18.out; have hnc146 := NBz18_z23.out; obtain ⟨hcz147_0, hcz147_1⟩ := bc2 BKz23; obtain ⟨hfz147_0, hfz147_1⟩ := bf2 BKz23))
  have n0_ : Aside0 (Kd.R k72 72 ((w141.setCell ⟨gbz23, 0, none⟩ (.string tz20)).setCell ⟨gbz23, 1, none⟩ (.int .i64 tz21)) w.heap.size (fun k_ => k_ ≠ gbz18) (.slice Ao17 tz6.length co17) tz6) := ⟨by (with_reducible repeat first | apply ra | apply rn | apply rd); exact Kd.R_mono (rf2 (Kd.R_types HO_z14002.out BKz23.out (by decide)) (fun _ hk => hk.2)) (fun _ hk => hk.1.2)⟩
  have n1_ : Aside0 (Kd.R k74 74 ((w141.setCell ⟨gbz23, 0, none⟩ (.string tz20)).setCell ⟨gbz23, 1, none⟩ (.int .i64 tz21)) w.heap.size (fun _ => True) (.slice Ao18 tz9.length co18) tz9) := ⟨by (with_reducible repeat first | apply ra | apply rn | apply rd); exact Kd.R_mono (rf2 (Kd.R_types HO_z14003.out BKz23.out (by decide)) (fun _ hk => hk.2)) (fun _ hk => trivial)⟩
  have n2_ : Aside0 (((w141.setCell ⟨gbz23, 0, none⟩ (.string tz20)).setCell ⟨gbz23, 1, none⟩ (.int .i64 tz21)).heap[gbz1]? = some (.cells #[.string a0_0, .int .i64 a0_1, .slice A0_2 l0_2.length c0_2, .slice A0_3 l0_3.length c0_3, .bool a0_4] 50 (0, 0))) := ⟨by (with_reducible repeat (first | refine blk_drewN ?_ _ | refine bkD ?_ | refine bkA ?_ _)); refine blk_far ?_ NBz1_z23.out _; refine blk_far ?_ NBz1_z23.out _; (with_reducible repeat (first | refine blk_drewN ?_ _ | refine bkD ?_ | refine bkA ?_ _)); exact BKz1.out⟩
  have n3_ : Aside0 (((w141.setCell ⟨gbz23, 0, none⟩ (.string tz20)).setCell ⟨gbz23, 1, none⟩ (.int .i64 tz21)).heap[gbz2]? = some (.cells #[.string a1] 9 (0, 0))) := ⟨by (with_reducible repeat (first | refine blk_drewN ?_ _ | refine bkD ?_ | refine bkA ?_ _)); refine blk_far ?_ NBz2_z23.out _; refine blk_far ?_ NBz2_z23.out _; (with_reducible repeat (first | refine blk_drewN ?_ _ | refine bkD ?_ | refine bkA ?_ _)); exact BKz2.out⟩
  have n4_ : Aside0 (((w141.setCell ⟨gbz23, 0, none⟩ (.string tz20)).setCell ⟨gbz23, 1, none⟩ (.int .i64 tz21)).heap[gbz3]? = some (.cells #[.string (⟨#[]⟩ : ByteArray), .int .i64 0, .slice none 0 0, .slice none 0 0, .bool false] 50 (0, 0))) := ⟨by (with_reducible repeat (first | refine blk_drewN ?_ _ | refine bkD ?_ | refine bkA ?_ _)); refine blk_far ?_ NBz3_z23.out _; refine blk_far ?_ NBz3_z23.out _; (with_reducible repeat (first | refine blk_drewN ?_ _ | refine bkD ?_ | refine bkA ?_ _)); exact BKz3.out⟩
  have n5_ : Aside0 (((w141.setCell ⟨gbz23, 0, none⟩ (.string tz20)).setCell ⟨gbz23, 1, none⟩ (.int .i64 tz21)).heap[gbz13]? = some (.cells #[.string tz4, .int .i64 tz5, .slice Ao17 tz6.length co17, .slice Ao18 tz9.length co18, .bool tz12] 50 (0, 0))) := ⟨by (with_reducible repeat (first | refine blk_drewN ?_ _ | refine bkD ?_ | refine bkA ?_ _)); refine blk_far ?_ NBz13_z23.out _; refine blk_far ?_ NBz13_z23.out _; (with_reducible repeat (first | refine blk_drewN ?_ _ | refine bkD ?_ | refine bkA ?_ _)); exact BKz13.out⟩
  have n6_ : Aside0 (((w141.setCell ⟨gbz23, 0, none⟩ (.string tz20)).setCell ⟨gbz23, 1, none⟩ (.int .i64 tz21)).heap[gbz18]? = some (.cells #[.string tz15, .string tz16] 72 (0, 0))) := ⟨by (with_reducible repeat (first | refine blk_drewN ?_ _ | refine bkD ?_ | refine bkA ?_ _)); refine blk_far ?_ NBz18_z23.out _; refine blk_far ?_ NBz18_z23.out _; (with_reducible repeat (first | refine blk_drewN ?_ _ | refine bkD ?_ | refine bkA ?_ _)); exact BKz18.out⟩
  have n7_ : Aside0 (((w141.setCell ⟨gbz23, 0, none⟩ (.string tz20)).setCell ⟨gbz23, 1, none⟩ (.int .i64 tz21)).heap[gbz23]? = some (.cells #[.string tz20, .int .i64 tz21] 23 (0, 0))) := ⟨by (with_reducible repeat (first | refine blk_drewN ?_ _ | refine bkD ?_ | refine bkA ?_ _)); apply bp2; (with_reducible repeat (first | refine blk_drewN ?_ _ | refine bkD ?_ | refine bkA ?_ _)); exact BKz23.out⟩
  have n8_ : Aside0 (Below w.heap.size w ((w141.setCell ⟨gbz23, 0, none⟩ (.string tz20)).setCell ⟨gbz23, 1, none⟩ (.int .i64 tz21))) := (sB_ HB)
  (try clear HO_z14002); (try clear HO_z14003); (try clear BKz1); (try clear BKz2); (try clear BKz3); (try clear BKz13); (try clear BKz18); (try clear BKz23); (try clear HB)
  generalize ((w141.setCell ⟨gbz23, 0, none⟩ (.string tz20)).setCell ⟨gbz23, 1, none⟩ (.int .i64 tz21)) = w148 at n0_ n1_ n2_ n3_ n4_ n5_ n6_ n7_ n8_ ⊢
  have HO_z14002 := n0_; have HO_z14003 := n1_; have BKz1 := n2_; have BKz2 := n3_; have BKz3 := n4_; have BKz13 := n5_; have BKz18 := n6_; have BKz23 := n7_; have HB := n8_; clear n0_ n1_ n2_ n3_ n4_ n5_ n6_ n7_ n8_
  have n0_ := am (Kd.R_drew HO_z14002.out)
  have n1_ := am (Kd.R_drew HO_z14003.out)
  have n2_ := am (bkD BKz1.out)
  have n3_ := am (bkD BKz2.out)
  have n4_ := am (bkD BKz3.out)
  have n5_ := am (bkD BKz13.out)
  have n6_ := am (bkD BKz18.out)
  have n7_ := am (bkD BKz23.out)
  have n8_ := am (below_drew1 HB.out)
  clear HO_z14002 HO_z14003 BKz1 BKz2 BKz3 BKz13 BKz18 BKz23 HB; have HO_z14002 := n0_; have HO_z14003 := n1_; have BKz1 := n2_; have BKz2 := n3_; have BKz3 := n4_; have BKz13 := n5_; have BKz18 := n6_; have BKz23 := n7_; have HB := n8_; clear n0_ n1_ n2_ n3_ n4_ n5_ n6_ n7_ n8_
  refine start_ (n := 5) (S := fun w' => w'.cell? ⟨gbz13, 0, none⟩ = some (.string tz4) ∧ w'.cell? ⟨gbz13, 1, none⟩ = some (.int .i64 tz5) ∧ w'.cell? ⟨gbz13, 2, none⟩ = some (.slice Ao17 tz6.length co17) ∧ w'.cell? ⟨gbz13, 3, none⟩ = some (.slice Ao18 tz9.length co18) ∧ w'.cell? ⟨gbz13, 4, none⟩ = some (.bool tz12)) (ds := []) #[false, false, false, false, false] (by kernel_rfl) rfl rfl (bc5 BKz13) (fun hHeld => ?_)
  generalize w148.drew = w149 at HO_z14002 HO_z14003 BKz1 BKz2 BKz3 BKz13 BKz18 BKz23 HB hHeld ⊢
  refine pn_ 1 (some 50) rfl rfl (.inl ⟨by rfl, by intro w'; go_simp; with_reducible rfl⟩) (by simp only [Act.put, sa_, s0_, s1_, i64_w, i32_w]; rfl) ?_
  refine pn_ 2 (some 4) rfl rfl (.inl ⟨by rfl, by intro w'; go_simp; with_reducible rfl⟩) (by simp only [Act.put, sa_, s0_, s1_, i64_w, i32_w]; rfl) ?_
  refine tn_ 0 (some 49) rfl rfl (.inl ⟨by rfl, by rintro w' ⟨s0, s1, s2, s3, s4⟩; go_simp; with_reducible rfl⟩) hHeld (by simp only [Act.put, sa_, s0_, s1_, i64_w, i32_w]; rfl) ?_
  refine one_ (i := 3) (N := none) #[true, true, true, true, false] rfl rfl (by kernel_rfl) (by decide) (fun K hK => ?_)
  have hs150 : w149.cell? ⟨gbz3, 0, none⟩ = some (.string (⟨#[]⟩ : ByteArray)) := (blk_cell BKz3.out 0).trans rfl
  have hfs150 := blk_frozen BKz3.out 0
  have := NBz1_z3.out
  have := NBz2_z3.out
  have := NBz13_z3.out
  have := NBz18_z3.out
  have := NBz23_z3.out
  have := NBz3_z1.out
  have := NBz3_z2.out
  have := NBz3_z13.out
  have := NBz3_z18.out
  have := NBz3_z23.out
  have hs151 : w149.cell? ⟨gbz3, 1, none⟩ = some (.int .i64 0) := (blk_cell BKz3.out 1).trans rfl
  have hfs151 := blk_frozen BKz3.out 1
  have := NBz1_z3.out
  have := NBz2_z3.out
  have := NBz13_z3.out
  have := NBz18_z3.out
  have := NBz23_z3.out
  have := NBz3_z1.out
  have := NBz3_z2.out
  have := NBz3_z13.out
  have := NBz3_z18.out
  have := NBz3_z23.out
  have hs152 : w149.cell? ⟨gbz3, 2, none⟩ = some (.slice none 0 0) := (blk_cell BKz3.out 2).trans rfl
  have hfs152 := blk_frozen BKz3.out 2
  have := NBz1_z3.out
  have := NBz2_z3.out
  have := NBz13_z3.out
  have := NBz18_z3.out
  have := NBz23_z3.out
  have := NBz3_z1.out
  have := NBz3_z2.out
  have := NBz3_z13.out
  have := NBz3_z18.out
  have := NBz3_z23.out
  have hs153 : w149.cell? ⟨gbz3, 3, none⟩ = some (.slice none 0 0) := (blk_cell BKz3.out 3).trans rfl
  have hfs153 := blk_frozen BKz3.out 3
  have := NBz1_z3.out
  have := NBz2_z3.out
  have := NBz13_z3.out
  have := NBz18_z3.out
  have := NBz23_z3.out
  have := NBz3_z1.out
  have := NBz3_z2.out
  have := NBz3_z13.out
  have := NBz3_z18.out
  have := NBz3_z23.out
  have hs154 : w149.cell? ⟨gbz3, 4, none⟩ = some (.bool false) := (blk_cell BKz3.out 4).trans rfl
  have hfs154 := blk_frozen BKz3.out 4
  have := NBz1_z3.out
  have := NBz2_z3.out
  have := NBz13_z3.out
  have := NBz18_z3.out
  have := NBz23_z3.out
  have := NBz3_z1.out
  have := NBz3_z2.out
  have := NBz3_z13.out
  have := NBz3_z18.out
  have := NBz3_z23.out
  refine skip_ (by rfl) rfl (by go_simp; rfl) ?_
  refine hK.out _ _ ⟨((cf5 NBz13_z3).trans (hHeld.1)), ((cf5 NBz13_z3).trans (hHeld.2.1)), ((cf5 NBz13_z3).trans (hHeld.2.2.1)), ((cf5 NBz13_z3).trans (hHeld.2.2.2.1)), ((cf5 NBz13_z3).trans (hHeld.2.2.2.2))⟩ (fun hHeld => ?_)
  clear hK K
  refine pn_ 4 (some 6) rfl rfl (.inl ⟨by rfl, by intro w'; go_simp; with_reducible rfl⟩) (by simp only [Act.put, sa_, s0_, s1_, i64_w, i32_w]; rfl) ?_
  refine done_ (by kernel_rfl) ?_
  try go_wp2
  refine bodyPost_ret (results_list (rs := [.tmp 4, .cell 5 50, .tmp 6]) rfl (by simp) (.tmp (.cell gbz3 50 #[.string tz4, .int .i64 tz5, .slice Ao17 tz6.length co17, .slice Ao18 tz9.length co18, .bool tz12] (0, 0) _ rfl (by (with_reducible repeat (first | refine blk_drewN ?_ _ | refine bkD ?_ | refine bkA ?_ _)); apply bp5; exact pk BKz3) Try.underlying50 rfl (by kernel_rfl) (.tmp .nil)))) rfl ?_
  exact ⟨_, _, by first | rfl | (simp <;> rfl) | (simp [*] <;> rfl), by (with_reducible repeat first | apply ra | apply rn | apply rd); exact Kd.R_mono (rf5 (Kd.R_types HO_z14002.out BKz3.out (by decide)) (fun _ hk => hk.2)) (fun _ hk => trivial), by (with_reducible repeat first | apply ra | apply rn | apply rd); exact Kd.R_mono (rf5 (Kd.R_types HO_z14003.out BKz3.out (by decide)) (fun _ hk => hk.2)) (fun _ hk => trivial), sC_ HB⟩
 rw [if_pos c82] at H
 have c82b0 : (tz22 == 0) = true := beq_iff_eq.mpr c82
 have c82b1 : (tz22 != 0) = false := bne_eq_false_iff_eq.mpr c82
 clear c82
 replace H := ob_ H
 obtain ⟨⟨tz24, tz25, tz26, tz29, tz32⟩, A830, H⟩ := H
 replace H : (if tz26.length < 4398046511104 then ((some (tz26 ++ [(⟨a1, tz19⟩ : S72)] : List (S72))).bind fun yz33 => ((ideal_clash.f tz20 tz21 yz33 tz29 tz32).bind fun tz36 => (some (tz19, tz20, tz21, yz33, tz29, tz36, 0)))) else (none)) = some (r1, r2, r3, r4, r5, r6, r7) := H
 have A83 := Aside0.mk A830
 clear A830
 by_cases c84 : tz26.length < 4398046511104
 rotate_left
 ·rw [if_neg c84] at H
  exact absurd H (by simp)
 rw [if_pos c84] at H
 have LMc84 := Aside0.mk c84
 clear c84
 obtain ⟨yz33, hyz33⟩ : ∃ y_ : List (S72), y_ = (tz26 ++ [(⟨a1, tz19⟩ : S72)]) := ⟨_, rfl⟩
 replace H : ((ideal_clash.f tz20 tz21 yz33 tz29 tz32).bind fun tz36 => (some (tz19, tz20, tz21, yz33, tz29, tz36, 0))) = some (r1, r2, r3, r4, r5, r6, r7) := by first | (rw [hyz33]; with_reducible exact H) | (have H2_ := (Option.bind_some _ _).symm.trans H; rw [hyz33]; with_reducible exact H2_) | (have H2_ := (Option.bind_some _ _).symm.trans H; with_reducible exact H2_) | with_reducible exact H | (rw [hyz33]; exact H) | exact H
 have Nyz33 := am hyz33
 clear hyz33
 replace H := ob_ H
 obtain ⟨tz36, A850, H⟩ := H
 replace H : (some (tz19, tz20, tz21, yz33, tz29, tz36, 0)) = some (r1, r2, r3, r4, r5, r6, r7) := H
 have A85 := Aside0.mk A850
 clear A850
 simp only [Option.some.injEq, Prod.mk.injEq] at H
 obtain ⟨rfl, rfl, rfl, rfl, rfl, rfl, rfl⟩ := H
 have hnb86 := NBz1_z2.out
 have hnc86 := NBz2_z1.out
 have hnb87 := NBz1_z3.out
 have hnc87 := NBz3_z1.out
 have hnb88 := NBz1_z13.out
 have hnc88 := NBz13_z1.out
 obtain ⟨hcz89_0, hcz89_1, hcz89_2, hcz89_3, hcz89_4⟩ := bc5 BKz1
 obtain ⟨hfz89_0, hfz89_1, hfz89_2, hfz89_3, hfz89_4⟩ := bf5 BKz1
 try go_wp2_with (first | ((with_reducible refine gate_callee (f := 50) rfl ?_); refine goesL_ (some 28) rfl rfl Try.func50 (by kernel_rfl) rfl #[.slice A0_2 l0_2.length c0_2, .func (.func 51) #[] #[.pointer (some ⟨gbz2, 0, none⟩)]] rfl (by (try simp only [List.map_toArray, List.map_cons, List.map_nil]) <;> rfl) ?_; (with_reducible refine (ideal_find_51.calls _ _ l0_2 a1 tz15 tz16 false _ ?side1 ?side2 ?side3 A41.out).mono ?_); (case side1 => repeat (first | exact (Kd.C_below HR0_2.out HB.out) | (with_reducible refine Kd.C_alloc ?_ _) | (with_reducible refine Kd.C_drewN ?_ _) | (with_reducible refine Kd.C_drew ?_))); (case side2 => exact HC0_2.out); (case side3 => exact by (with_reducible repeat (first | refine blk_drewN ?_ _ | refine bkD ?_ | refine bkA ?_ _)); exact BKz2.out); rintro e w90 ⟨rfl, hb⟩; refine ⟨_, rfl, ?_⟩; have n0_ := am (Kd.R_below (pr HO_z14002) hb); have n1_ := am (Kd.R_below (pr HO_z14003) hb); have n2_ := am (bkB (pk BKz1) hb); have n3_ := am (bkB (pk BKz2) hb); have n4_ := am (bkB (g := gbz3) (o := .cells #[.string (⟨#[]⟩ : ByteArray), .int .i64 0, .slice none 0 0, .slice none 0 0, .bool false] 50 (0, 0)) (pk BKz3) hb); have n5_ := am (bkB (pk BKz13) hb); have n6_ := am (below_step (sC_ HB) hb); clear HO_z14002; clear HO_z14003; clear BKz1; clear BKz2; clear BKz3; clear BKz13; clear HB; have HO_z14002 := n0_; have HO_z14003 := n1_; have BKz1 := n2_; have BKz2 := n3_; have BKz3 := n4_; have BKz13 := n5_; have HB := n6_; clear n0_ n1_ n2_ n3_ n4_ n5_ n6_; (try clear hi)) | ((with_reducible refine gate_dst (N := 8) rfl ?_); (try (refine gate_guard (by rfl) ?_; dsimp only)); refine box_event ?hg (N := 8) ?hd (cs := #[.string (⟨#[]⟩ : ByteArray), .string (⟨#[]⟩ : ByteArray)]) (t := 72) ?hr ?_; (case hd => rfl); (case hg => rfl); (case hr => first | (go_simp; done) | (go_simp; rfl)); intro gbz18 hg w91 hbox hb; have n0_ := am (Kd.R_below (Kd.R_elderB (pr HO_z14002) gbz18 (Nat.le_of_eq hg.symm)) hb); have n1_ := am (Kd.R_below (pr HO_z14003) hb); have n2_ := am (bkB (pk BKz1) hb); have n3_ := am (bkB (pk BKz2) hb); have n4_ := am (bkB (g := gbz3) (o := .cells #[.string (⟨#[]⟩ : ByteArray), .int .i64 0, .slice none 0 0, .slice none 0 0, .bool false] 50 (0, 0)) (pk BKz3) hb); have n5_ := am (bkB (pk BKz13) hb); have n6_ := am (below_step (sC_ HB) hb); have n7_ := am (hbox); have n8_ := ge_ hg (sC_ HB); have n9_ := ge_ hg (sC_ HB); have n10_ := nl_ hg BKz1; have n11_ := ng_ hg BKz1; have n12_ := nl_ hg BKz2; have n13_ := ng_ hg BKz2; have n14_ := am ((by rw [hg]; exact Nat.ne_of_lt (blk_lt (g := gbz3) (o := .cells #[.string (⟨#[]⟩ : ByteArray), .int .i64 0, .slice none 0 0, .slice none 0 0, .bool false] 50 (0, 0)) (pk BKz3)) : gbz3 ≠ gbz18)); have n15_ := am ((by rw [hg]; exact Nat.ne_of_gt (blk_lt (g := gbz3) (o := .cells #[.string (⟨#[]⟩ : ByteArray), .int .i64 0, .slice none 0 0, .slice none 0 0, .bool false] 50 (0, 0)) (pk BKz3)) : gbz18 ≠ gbz3)); have n16_ := nl_ hg BKz13; have n17_ := ng_ hg BKz13; clear HO_z14002; clear HO_z14003; clear BKz1; clear BKz2; clear BKz3; clear BKz13; clear HB; have HO_z14002 := n0_; have HO_z14003 := n1_; have BKz1 := n2_; have BKz2 := n3_; have BKz3 := n4_; have BKz13 := n5_; have HB := n6_; have BKz18 := n7_; have GWz18 := n8_; have GEz18 := n9_; have NBz1_z18 := n10_; have NBz18_z1 := n11_; have NBz2_z18 := n12_; have NBz18_z2 := n13_; have NBz3_z18 := n14_; have NBz18_z3 := n15_; have NBz13_z18 := n16_; have NBz18_z13 := n17_; clear n0_ n1_ n2_ n3_ n4_ n5_ n6_ n7_ n8_ n9_ n10_ n11_ n12_ n13_ n14_ n15_ n16_ n17_; clear hb hbox hg; have hnb92 := NBz18_z1.out; have hnc92 := NBz1_z18.out; have hnb93 := NBz18_z2.out; have hnc93 := NBz2_z18.out; have hnb94 := NBz18_z3.out; have hnc94 := NBz3_z18.out; have hnb95 := NBz18_z13.out; have hnc95 := NBz13_z18.out; obtain ⟨hcz96_0, hcz96_1⟩ := bc2 BKz18; obtain ⟨hfz96_0, hfz96_1⟩ := bf2 BKz18; obtain ⟨hcz97_0, hcz97_1, hcz97_2, hcz97_3, hcz97_4⟩ := bc5 BKz1; obtain ⟨hfz97_0, hfz97_1, hfz97_2, hfz97_3, hfz97_4⟩ := bf5 BKz1) | ((with_reducible refine gate_callee (f := 21) rfl ?_); refine goesL_ (some 43) rfl rfl Try.func21 (by kernel_rfl) rfl #[.agg #[.string a0_0, .int .i64 a0_1], .int .i64 16] rfl (by (try simp only [List.map_toArray, List.map_cons, List.map_nil]) <;> rfl) ?_; (with_reducible refine (tape_Take.calls kj3 a0_0 a0_1 16 tz19 tz20 tz21 tz22 _ A81.out).mono ?_); rintro e w98 ⟨rfl, hb⟩; refine ⟨_, rfl, ?_⟩; have n0_ := am (Kd.R_below (by (with_reducible repeat first | apply ra | apply rn | apply rd); exact (Kd.R_mono (rf2 (Kd.R_mono HO_z14002.out (fun k_ hk => (⟨hk, hk.2⟩ : _ ∧ k_ ≠ gbz18))) (fun _ hk => hk.2)) (fun _ h_ => h_.1))) hb); have n1_ := am (Kd.R_below (by (with_reducible repeat first | apply ra | apply rn | apply rd); exact (rs2 HO_z14003 BKz18 (by decide))) hb); have n2_ := am (bkB (g := gbz1) (o := .cells #[.string a0_0, .int .i64 a0_1, .slice A0_2 l0_2.length c0_2, .slice A0_3 l0_3.length c0_3, .bool a0_4] 50 (0, 0)) (by (with_reducible repeat (first | refine blk_drewN ?_ _ | refine bkD ?_ | refine bkA ?_ _)); refine blk_far ?_ NBz1_z18.out _; refine blk_far ?_ NBz1_z18.out _; exact pk BKz1) hb); have n3_ := am (bkB (g := gbz2) (o := .cells #[.string a1] 9 (0, 0)) (by (with_reducible repeat (first | refine blk_drewN ?_ _ | refine bkD ?_ | refine bkA ?_ _)); refine blk_far ?_ NBz2_z18.out _; refine blk_far ?_ NBz2_z18.out _; exact pk BKz2) hb); have n4_ := am (bkB (g := gbz3) (o := .cells #[.string (⟨#[]⟩ : ByteArray), .int .i64 0, .slice none 0 0, .slice none 0 0, .bool false] 50 (0, 0)) (by (with_reducible repeat (first | refine blk_drewN ?_ _ | refine bkD ?_ | refine bkA ?_ _)); refine blk_far ?_ NBz3_z18.out _; refine blk_far ?_ NBz3_z18.out _; exact pk BKz3) hb); have n5_ := am (bkB (g := gbz13) (o := .cells #[.string tz4, .int .i64 tz5, .slice Ao17 tz6.length co17, .slice Ao18 tz9.length co18, .bool tz12] 50 (0, 0)) (by (with_reducible repeat (first | refine blk_drewN ?_ _ | refine bkD ?_ | refine bkA ?_ _)); refine blk_far ?_ NBz13_z18.out _; refine blk_far ?_ NBz13_z18.out _; exact pk BKz13) hb); have n6_ := am (bkB (g := gbz18) (o := .cells #[.string tz15, .string tz16] 72 (0, 0)) (by (with_reducible repeat (first | refine blk_drewN ?_ _ | refine bkD ?_ | refine bkA ?_ _)); apply bp2; exact pk BKz18) hb); have n7_ := am (below_step (sC_ HB) hb); clear HO_z14002; clear HO_z14003; clear BKz1; clear BKz2; clear BKz3; clear BKz13; clear BKz18; clear HB; have HO_z14002 := n0_; have HO_z14003 := n1_; have BKz1 := n2_; have BKz2 := n3_; have BKz3 := n4_; have BKz13 := n5_; have BKz18 := n6_; have HB := n7_; clear n0_ n1_ n2_ n3_ n4_ n5_ n6_ n7_; (try clear hi)) | ((with_reducible refine gate_dst (N := 11) rfl ?_); (try (refine gate_guard (by rfl) ?_; dsimp only)); refine box_event ?hg (N := 11) ?hd (cs := #[.string (⟨#[]⟩ : ByteArray), .int .i64 0]) (t := 23) ?hr ?_; (case hd => rfl); (case hg => rfl); (case hr => first | (go_simp; done) | (go_simp; rfl)); intro gbz23 hg w99 hbox hb; have n0_ := am (Kd.R_below (pr HO_z14002) hb); have n1_ := am (Kd.R_below (pr HO_z14003) hb); have n2_ := am (bkB (pk BKz1) hb); have n3_ := am (bkB (pk BKz2) hb); have n4_ := am (bkB (g := gbz3) (o := .cells #[.string (⟨#[]⟩ : ByteArray), .int .i64 0, .slice none 0 0, .slice none 0 0, .bool false] 50 (0, 0)) (pk BKz3) hb); have n5_ := am (bkB (pk BKz13) hb); have n6_ := am (bkB (pk BKz18) hb); have n7_ := am (below_step (sC_ HB) hb); have n8_ := am (hbox); have n9_ := ge_ hg (sC_ HB); have n10_ := ge_ hg (sC_ HB); have n11_ := nl_ hg BKz1; have n12_ := ng_ hg BKz1; have n13_ := nl_ hg BKz2; have n14_ := ng_ hg BKz2; have n15_ := am ((by rw [hg]; exact Nat.ne_of_lt (blk_lt (g := gbz3) (o := .cells #[.string (⟨#[]⟩ : ByteArray), .int .i64 0, .slice none 0 0, .slice none 0 0, .bool false] 50 (0, 0)) (pk BKz3)) : gbz3 ≠ gbz23)); have n16_ := am ((by rw [hg]; exact Nat.ne_of_gt (blk_lt (g := gbz3) (o := .cells #[.string (⟨#[]⟩ : ByteArray), .int .i64 0, .slice none 0 0, .slice none 0 0, .bool false] 50 (0, 0)) (pk BKz3)) : gbz23 ≠ gbz3)); have n17_ := nl_ hg BKz13; have n18_ := ng_ hg BKz13; have n19_ := nl_ hg BKz18; have n20_ := ng_ hg BKz18; clear HO_z14002; clear HO_z14003; clear BKz1; clear BKz2; clear BKz3; clear BKz13; clear BKz18; clear HB; have HO_z14002 := n0_; have HO_z14003 := n1_; have BKz1 := n2_; have BKz2 := n3_; have BKz3 := n4_; have BKz13 := n5_; have BKz18 := n6_; have HB := n7_; have BKz23 := n8_; have GWz23 := n9_; have GEz23 := n10_; have NBz1_z23 := n11_; have NBz23_z1 := n12_; have NBz2_z23 := n13_; have NBz23_z2 := n14_; have NBz3_z23 := n15_; have NBz23_z3 := n16_; have NBz13_z23 := n17_; have NBz23_z13 := n18_; have NBz18_z23 := n19_; have NBz23_z18 := n20_; clear n0_ n1_ n2_ n3_ n4_ n5_ n6_ n7_ n8_ n9_ n10_ n11_ n12_ n13_ n14_ n15_ n16_ n17_ n18_ n19_ n20_; clear hb hbox hg; have hnb100 := NBz23_z1.out; have hnc100 := NBz1_z23.out; have hnb101 := NBz23_z2.out; have hnc101 := NBz2_z23.out; have hnb102 := NBz23_z3.out; have hnc102 := NBz3_z23.out; have hnb103 := NBz23_z13.out; have hnc103 := NBz13_z23.out; have hnb104 := NBz23_z18.out; have hnc104 := NBz18_z23.out; obtain ⟨hcz105_0, hcz105_1⟩ := bc2 BKz23; obtain ⟨hfz105_0, hfz105_1⟩ := bf2 BKz23; obtain ⟨hcz106_0, hcz106_1, hcz106_2, hcz106_3, hcz106_4⟩ := bc5 BKz1; obtain ⟨hfz106_0, hfz106_1, hfz106_2, hfz106_3, hfz106_4⟩ := bf5 BKz1) | ((with_reducible refine gate_callee (f := 49) rfl ?_); refine goesL_ (some 52) rfl rfl Try.func49 (by kernel_rfl) rfl #[.agg #[.string a0_0, .int .i64 a0_1, .slice A0_2 l0_2.length c0_2, .slice A0_3 l0_3.length c0_3, .bool a0_4]] rfl (by (try simp only [List.map_toArray, List.map_cons, List.map_nil]) <;> rfl) ?_; (with_reducible refine (ideal_own.calls a0_0 a0_1 _ _ l0_2 _ _ l0_3 a0_4 tz24 tz25 tz26 tz29 tz32 _ ?side1 ?side2 ?side3 ?side4 A83.out).mono ?_); (case side1 => exact Kd.C_below HR0_2.out (sC_ HB)); (case side2 => exact HC0_2.out); (case side3 => exact Kd.C_below HR0_3.out (sC_ HB)); (case side4 => exact HC0_3.out); rintro e w107 ⟨vz27, vz30, rfl, ho0, ho1, hb⟩; refine ⟨_, rfl, ?_⟩; have n0_ := am (Kd.R_elder' (by (with_reducible repeat first | apply ra | apply rn | apply rd); exact (rs2 HO_z14002 BKz23 (by decide))) (Kd.R_base ho0) hb); have n1_ := am (Kd.R_elder' (by (with_reducible repeat first | apply ra | apply rn | apply rd); exact (rs2 HO_z14003 BKz23 (by decide))) (Kd.R_base ho1) hb); have n2_ := am (Kd.R_lower (Kd.R_newB (Kd.R_new' ho0 (Kd.R_lt (by (with_reducible repeat first | apply ra | apply rn | apply rd); exact (rs2 HO_z14002 BKz23 (by decide))))) (g := gbz18) (o := .cells #[.string tz15, .string tz16] 72 (0, 0)) (by (with_reducible repeat (first | refine blk_drewN ?_ _ | refine bkD ?_ | refine bkA ?_ _)); refine blk_far ?_ NBz18_z23.out _; refine blk_far ?_ NBz18_z23.out _; exact pk BKz18)) (below_size (sC_ HB))); have n3_ := am (Kd.R_lower (Kd.R_new' ho1 (Kd.R_lt (by (with_reducible repeat first | apply ra | apply rn | apply rd); exact (rs2 HO_z14003 BKz23 (by decide))))) (below_size (sC_ HB))); have n4_ := am (bkB (g := gbz1) (o := .cells #[.string a0_0, .int .i64 a0_1, .slice A0_2 l0_2.length c0_2, .slice A0_3 l0_3.length c0_3, .bool a0_4] 50 (0, 0)) (by (with_reducible repeat (first | refine blk_drewN ?_ _ | refine bkD ?_ | refine bkA ?_ _)); refine blk_far ?_ NBz1_z23.out _; refine blk_far ?_ NBz1_z23.out _; exact pk BKz1) hb); have n5_ := am (bkB (g := gbz2) (o := .cells #[.string a1] 9 (0, 0)) (by (with_reducible repeat (first | refine blk_drewN ?_ _ | refine bkD ?_ | refine bkA ?_ _)); refine blk_far ?_ NBz2_z23.out _; refine blk_far ?_ NBz2_z23.out _; exact pk BKz2) hb); have n6_ := am (bkB (g := gbz3) (o := .cells #[.string (⟨#[]⟩ : ByteArray), .int .i64 0, .slice none 0 0, .slice none 0 0, .bool false] 50 (0, 0)) (by (with_reducible repeat (first | refine blk_drewN ?_ _ | refine bkD ?_ | refine bkA ?_ _)); refine blk_far ?_ NBz3_z23.out _; refine blk_far ?_ NBz3_z23.out _; exact pk BKz3) hb); have n7_ := am (bkB (g := gbz13) (o := .cells #[.string tz4, .int .i64 tz5, .slice Ao17 tz6.length co17, .slice Ao18 tz9.length co18, .bool tz12] 50 (0, 0)) (by (with_reducible repeat (first | refine blk_drewN ?_ _ | refine bkD ?_ | refine bkA ?_ _)); refine blk_far ?_ NBz13_z23.out _; refine blk_far ?_ NBz13_z23.out _; exact pk BKz13) hb); have n8_ := am (bkB (g := gbz18) (o := .cells #[.string tz15, .string tz16] 72 (0, 0)) (by (with_reducible repeat (first | refine blk_drewN ?_ _ | refine bkD ?_ | refine bkA ?_ _)); refine blk_far ?_ NBz18_z23.out _; refine blk_far ?_ NBz18_z23.out _; exact pk BKz18) hb); have n9_ := am (bkB (g := gbz23) (o := .cells #[.string tz20, .int .i64 tz21] 23 (0, 0)) (by (with_reducible repeat (first | refine blk_drewN ?_ _ | refine bkD ?_ | refine bkA ?_ _)); apply bp2; exact pk BKz23) hb); have n10_ := am (below_step (sC_ HB) hb); clear HO_z14002; clear HO_z14003; clear BKz1; clear BKz2; clear BKz3; clear BKz13; clear BKz18; clear BKz23; clear HB; have HO_z14002 := n0_; have HO_z14003 := n1_; have HOz28 := n2_; have HOz31 := n3_; have BKz1 := n4_; have BKz2 := n5_; have BKz3 := n6_; have BKz13 := n7_; have BKz18 := n8_; have BKz23 := n9_; have HB := n10_; clear n0_ n1_ n2_ n3_ n4_ n5_ n6_ n7_ n8_ n9_ n10_; obtain ⟨hcz108_0, hcz108_1, hcz108_2, hcz108_3, hcz108_4⟩ := bc5 BKz1; obtain ⟨hfz108_0, hfz108_1, hfz108_2, hfz108_3, hfz108_4⟩ := bf5 BKz1; obtain ⟨Ao109, co109, eo109⟩ := Kd.R_slice HOz28.out; subst eo109; obtain ⟨Ao110, co110, eo110⟩ := Kd.R_slice HOz31.out; subst eo110))
 have n0_ : Aside0 (Kd.R k72 72 (((((w107.setCell ⟨gbz1, 0, none⟩ (.string tz24)).setCell ⟨gbz1, 1, none⟩ (.int .i64 tz25)).setCell ⟨gbz1, 2, none⟩ (.slice Ao109 tz26.length co109)).setCell ⟨gbz1, 3, none⟩ (.slice Ao110 tz29.length co110)).setCell ⟨gbz1, 4, none⟩ (.bool tz32)) w.heap.size (fun k_ => some k_ ≠ (.slice Ao109 tz26.length co109 : Value).ownBlock ∧ k_ ≠ gbz18) (.slice Ao17 tz6.length co17) tz6) := ⟨by (with_reducible repeat first | apply ra | apply rn | apply rd); exact Kd.R_mono (rf5 (Kd.R_types HO_z14002.out BKz1.out (by decide)) (fun _ hk => hk.2)) (fun _ hk => ⟨hk.1.2, hk.1.1.2⟩)⟩
 have n1_ : Aside0 (Kd.R k74 74 (((((w107.setCell ⟨gbz1, 0, none⟩ (.string tz24)).setCell ⟨gbz1, 1, none⟩ (.int .i64 tz25)).setCell ⟨gbz1, 2, none⟩ (.slice Ao109 tz26.length co109)).setCell ⟨gbz1, 3, none⟩ (.slice Ao110 tz29.length co110)).setCell ⟨gbz1, 4, none⟩ (.bool tz32)) w.heap.size (fun k_ => some k_ ≠ (.slice Ao110 tz29.length co110 : Value).ownBlock) (.slice Ao18 tz9.length co18) tz9) := ⟨by (with_reducible repeat first | apply ra | apply rn | apply rd); exact Kd.R_mono (rf5 (Kd.R_types HO_z14003.out BKz1.out (by decide)) (fun _ hk => hk.2)) (fun _ hk => hk.1.2)⟩
 have n2_ : Aside0 (Kd.R k72 72 (((((w107.setCell ⟨gbz1, 0, none⟩ (.string tz24)).setCell ⟨gbz1, 1, none⟩ (.int .i64 tz25)).setCell ⟨gbz1, 2, none⟩ (.slice Ao109 tz26.length co109)).setCell ⟨gbz1, 3, none⟩ (.slice Ao110 tz29.length co110)).setCell ⟨gbz1, 4, none⟩ (.bool tz32)) w.heap.size (fun k_ => some k_ ≠ (.slice Ao17 tz6.length co17 : Value).ownBlock ∧ k_ ≠ gbz18) (.slice Ao109 tz26.length co109) tz26) := ⟨by (with_reducible repeat first | apply ra | apply rn | apply rd); exact Kd.R_mono (rf5 (Kd.R_types HOz28.out BKz1.out (by decide)) (fun _ hk => hk.2)) (fun _ hk => ⟨hk.1.1.2, hk.1.2⟩)⟩
 have n3_ : Aside0 (Kd.R k74 74 (((((w107.setCell ⟨gbz1, 0, none⟩ (.string tz24)).setCell ⟨gbz1, 1, none⟩ (.int .i64 tz25)).setCell ⟨gbz1, 2, none⟩ (.slice Ao109 tz26.length co109)).setCell ⟨gbz1, 3, none⟩ (.slice Ao110 tz29.length co110)).setCell ⟨gbz1, 4, none⟩ (.bool tz32)) w.heap.size (fun k_ => some k_ ≠ (.slice Ao18 tz9.length co18 : Value).ownBlock) (.slice Ao110 tz29.length co110) tz29) := ⟨by (with_reducible repeat first | apply ra | apply rn | apply rd); exact Kd.R_mono (rf5 (Kd.R_types HOz31.out BKz1.out (by decide)) (fun _ hk => hk.2)) (fun _ hk => hk.1.2)⟩
 have n4_ : Aside0 ((((((w107.setCell ⟨gbz1, 0, none⟩ (.string tz24)).setCell ⟨gbz1, 1, none⟩ (.int .i64 tz25)).setCell ⟨gbz1, 2, none⟩ (.slice Ao109 tz26.length co109)).setCell ⟨gbz1, 3, none⟩ (.slice Ao110 tz29.length co110)).setCell ⟨gbz1, 4, none⟩ (.bool tz32)).heap[gbz1]? = some (.cells #[.string tz24, .int .i64 tz25, .slice Ao109 tz26.length co109, .slice Ao110 tz29.length co110, .bool tz32] 50 (0, 0))) := ⟨by (with_reducible repeat (first | refine blk_drewN ?_ _ | refine bkD ?_ | refine bkA ?_ _)); apply bp5; (with_reducible repeat (first | refine blk_drewN ?_ _ | refine bkD ?_ | refine bkA ?_ _)); exact BKz1.out⟩
 have n5_ : Aside0 ((((((w107.setCell ⟨gbz1, 0, none⟩ (.string tz24)).setCell ⟨gbz1, 1, none⟩ (.int .i64 tz25)).setCell ⟨gbz1, 2, none⟩ (.slice Ao109 tz26.length co109)).setCell ⟨gbz1, 3, none⟩ (.slice Ao110 tz29.length co110)).setCell ⟨gbz1, 4, none⟩ (.bool tz32)).heap[gbz2]? = some (.cells #[.string a1] 9 (0, 0))) := ⟨by (with_reducible repeat (first | refine blk_drewN ?_ _ | refine bkD ?_ | refine bkA ?_ _)); refine br5 ?_ NBz2_z1; (with_reducible repeat (first | refine blk_drewN ?_ _ | refine bkD ?_ | refine bkA ?_ _)); exact BKz2.out⟩
 have n6_ : Aside0 ((((((w107.setCell ⟨gbz1, 0, none⟩ (.string tz24)).setCell ⟨gbz1, 1, none⟩ (.int .i64 tz25)).setCell ⟨gbz1, 2, none⟩ (.slice Ao109 tz26.length co109)).setCell ⟨gbz1, 3, none⟩ (.slice Ao110 tz29.length co110)).setCell ⟨gbz1, 4, none⟩ (.bool tz32)).heap[gbz3]? = some (.cells #[.string (⟨#[]⟩ : ByteArray), .int .i64 0, .slice none 0 0, .slice none 0 0, .bool false] 50 (0, 0))) := ⟨by (with_reducible repeat (first | refine blk_drewN ?_ _ | refine bkD ?_ | refine bkA ?_ _)); refine br5 ?_ NBz3_z1; (with_reducible repeat (first | refine blk_drewN ?_ _ | refine bkD ?_ | refine bkA ?_ _)); exact BKz3.out⟩
 have n7_ : Aside0 ((((((w107.setCell ⟨gbz1, 0, none⟩ (.string tz24)).setCell ⟨gbz1, 1, none⟩ (.int .i64 tz25)).setCell ⟨gbz1, 2, none⟩ (.slice Ao109 tz26.length co109)).setCell ⟨gbz1, 3, none⟩ (.slice Ao110 tz29.length co110)).setCell ⟨gbz1, 4, none⟩ (.bool tz32)).heap[gbz13]? = some (.cells #[.string tz4, .int .i64 tz5, .slice Ao17 tz6.length co17, .slice Ao18 tz9.length co18, .bool tz12] 50 (0, 0))) := ⟨by (with_reducible repeat (first | refine blk_drewN ?_ _ | refine bkD ?_ | refine bkA ?_ _)); refine br5 ?_ NBz13_z1; (with_reducible repeat (first | refine blk_drewN ?_ _ | refine bkD ?_ | refine bkA ?_ _)); exact BKz13.out⟩
 have n8_ : Aside0 ((((((w107.setCell ⟨gbz1, 0, none⟩ (.string tz24)).setCell ⟨gbz1, 1, none⟩ (.int .i64 tz25)).setCell ⟨gbz1, 2, none⟩ (.slice Ao109 tz26.length co109)).setCell ⟨gbz1, 3, none⟩ (.slice Ao110 tz29.length co110)).setCell ⟨gbz1, 4, none⟩ (.bool tz32)).heap[gbz18]? = some (.cells #[.string tz15, .string tz16] 72 (0, 0))) := ⟨by (with_reducible repeat (first | refine blk_drewN ?_ _ | refine bkD ?_ | refine bkA ?_ _)); refine br5 ?_ NBz18_z1; (with_reducible repeat (first | refine blk_drewN ?_ _ | refine bkD ?_ | refine bkA ?_ _)); exact BKz18.out⟩
 have n9_ : Aside0 ((((((w107.setCell ⟨gbz1, 0, none⟩ (.string tz24)).setCell ⟨gbz1, 1, none⟩ (.int .i64 tz25)).setCell ⟨gbz1, 2, none⟩ (.slice Ao109 tz26.length co109)).setCell ⟨gbz1, 3, none⟩ (.slice Ao110 tz29.length co110)).setCell ⟨gbz1, 4, none⟩ (.bool tz32)).heap[gbz23]? = some (.cells #[.string tz20, .int .i64 tz21] 23 (0, 0))) := ⟨by (with_reducible repeat (first | refine blk_drewN ?_ _ | refine bkD ?_ | refine bkA ?_ _)); refine br5 ?_ NBz23_z1; (with_reducible repeat (first | refine blk_drewN ?_ _ | refine bkD ?_ | refine bkA ?_ _)); exact BKz23.out⟩
 have n10_ : Aside0 (Below w.heap.size w (((((w107.setCell ⟨gbz1, 0, none⟩ (.string tz24)).setCell ⟨gbz1, 1, none⟩ (.int .i64 tz25)).setCell ⟨gbz1, 2, none⟩ (.slice Ao109 tz26.length co109)).setCell ⟨gbz1, 3, none⟩ (.slice Ao110 tz29.length co110)).setCell ⟨gbz1, 4, none⟩ (.bool tz32))) := (sB_ HB)
 (try clear HO_z14002); (try clear HO_z14003); (try clear HOz28); (try clear HOz31); (try clear BKz1); (try clear BKz2); (try clear BKz3); (try clear BKz13); (try clear BKz18); (try clear BKz23); (try clear HB)
 generalize (((((w107.setCell ⟨gbz1, 0, none⟩ (.string tz24)).setCell ⟨gbz1, 1, none⟩ (.int .i64 tz25)).setCell ⟨gbz1, 2, none⟩ (.slice Ao109 tz26.length co109)).setCell ⟨gbz1, 3, none⟩ (.slice Ao110 tz29.length co110)).setCell ⟨gbz1, 4, none⟩ (.bool tz32)) = w111 at n0_ n1_ n2_ n3_ n4_ n5_ n6_ n7_ n8_ n9_ n10_ ⊢
 have HO_z14002 := n0_; have HO_z14003 := n1_; have HOz28 := n2_; have HOz31 := n3_; have BKz1 := n4_; have BKz2 := n5_; have BKz3 := n6_; have BKz13 := n7_; have BKz18 := n8_; have BKz23 := n9_; have HB := n10_; clear n0_ n1_ n2_ n3_ n4_ n5_ n6_ n7_ n8_ n9_ n10_
 have n0_ := am (Kd.R_drew HO_z14002.out)
 have n1_ := am (Kd.R_drew HO_z14003.out)
 have n2_ := am (Kd.R_drew HOz28.out)
 have n3_ := am (Kd.R_drew HOz31.out)
 have n4_ := am (bkD BKz1.out)
 have n5_ := am (bkD BKz2.out)
 have n6_ := am (bkD BKz3.out)
 have n7_ := am (bkD BKz13.out)
 have n8_ := am (bkD BKz18.out)
 have n9_ := am (bkD BKz23.out)
 have n10_ := am (below_drew1 HB.out)
 clear HO_z14002 HO_z14003 HOz28 HOz31 BKz1 BKz2 BKz3 BKz13 BKz18 BKz23 HB; have HO_z14002 := n0_; have HO_z14003 := n1_; have HOz28 := n2_; have HOz31 := n3_; have BKz1 := n4_; have BKz2 := n5_; have BKz3 := n6_; have BKz13 := n7_; have BKz18 := n8_; have BKz23 := n9_; have HB := n10_; clear n0_ n1_ n2_ n3_ n4_ n5_ n6_ n7_ n8_ n9_ n10_
 refine start_ (n := 12) (S := fun w' => w'.cell? ⟨gbz23, 0, none⟩ = some (.string tz20) ∧ w'.cell? ⟨gbz23, 1, none⟩ = some (.int .i64 tz21) ∧ w'.cell? ⟨gbz1, 0, none⟩ = some (.string tz24) ∧ w'.cell? ⟨gbz1, 1, none⟩ = some (.int .i64 tz25) ∧ w'.cell? ⟨gbz1, 2, none⟩ = some (.slice Ao109 tz26.length co109) ∧ w'.cell? ⟨gbz1, 3, none⟩ = some (.slice Ao110 tz29.length co110) ∧ w'.cell? ⟨gbz1, 4, none⟩ = some (.bool tz32) ∧ w'.cell? ⟨gbz2, 0, none⟩ = some (.string a1)) (ds := [9, 11]) #[false, false, false, false, false, false, false, false, false, false, false, false] (by kernel_rfl) rfl rfl ⟨(blk_cell BKz23.out 0).trans rfl, (blk_cell BKz23.out 1).trans rfl, (blk_cell BKz1.out 0).trans rfl, (blk_cell BKz1.out 1).trans rfl, (blk_cell BKz1.out 2).trans rfl, (blk_cell BKz1.out 3).trans rfl, (blk_cell BKz1.out 4).trans rfl, (blk_cell BKz2.out 0).trans rfl⟩ (fun hHeld => ?_); refine with_tabW ideal_Label.tab13 ideal_Label.bits13 (fun HT_ HW_ => ?_)
 generalize w111.drew = w112 at HO_z14002 HO_z14003 HOz28 HOz31 BKz1 BKz2 BKz3 BKz13 BKz18 BKz23 HB hHeld ⊢
 refine pv_ 1 (some 54) HT_ ?_
 refine pv_ 4 (some 57) HT_ ?_
 refine tk_ 0 (some 53) HT_ HW_ rfl rfl (.inl ⟨by rfl, by rintro w' ⟨s0, s1, s2, s3, s4, s5, s6, s7⟩; go_simp; with_reducible rfl⟩) hHeld (by simp only [Act.put, sa_, s0_, s1_, i64_w, i32_w]; rfl) ?_
 refine tk_ 2 (some 55) HT_ HW_ rfl rfl (.inl ⟨by rfl, by rintro w' ⟨s0, s1, s2, s3, s4, s5, s6, s7⟩; go_simp; with_reducible rfl⟩) hHeld (by simp only [Act.put, sa_, s0_, s1_, i64_w, i32_w]; rfl) ?_
 refine pv_ 8 (some 61) HT_ ?_
 refine tk_ 3 (some 56) HT_ HW_ rfl rfl (.inl ⟨by rfl, by rintro w' ⟨s0, s1, s2, s3, s4, s5, s6, s7⟩; go_simp; with_reducible rfl⟩) hHeld (by simp only [Act.put, sa_, s0_, s1_, i64_w, i32_w]; rfl) ?_
 refine pv_ 5 (some 58) HT_ ?_
 refine on_ 6 (some 59) HT_ rfl rfl (fun K hK => ?_)
 refine value_ (w1 := ?_) (v := ?_) (by rfl) rfl ?_ ?_
 rotate_left 2
 ·go_simp
  constructor
  rotate_left
  ·rfl
  rfl
 refine hK.out _ _ ⟨(blk_cell (bkA BKz23.out _) 0).trans rfl, (blk_cell (bkA BKz23.out _) 1).trans rfl, (blk_cell (bkA BKz1.out _) 0).trans rfl, (blk_cell (bkA BKz1.out _) 1).trans rfl, (blk_cell (bkA BKz1.out _) 2).trans rfl, (blk_cell (bkA BKz1.out _) 3).trans rfl, (blk_cell (bkA BKz1.out _) 4).trans rfl, (blk_cell (bkA BKz2.out _) 0).trans rfl⟩ (fun hHeld => ?_)
 clear hK K
 refine norm_ (by show Act.put _ (some 59) _ = _; simp only [Act.put, sa_, s0_, s1_, i64_w, i32_w]; rfl) ?_
 refine on_ 7 (some 60) HT_ rfl rfl (fun K hK => ?_)
 refine Kd.R_append_step k72 (w0 := w) w.heap.size (by rfl) (.tmp 55) (.tmp 59) 47 72 (.agg #[(.string ⟨#[]⟩), (.string ⟨#[]⟩)]) 32 rfl Try.underlying47 info72 rfl (by decide) (by omega) (.slice Ao109 tz26.length co109) tz26 (⟨a1, tz19⟩ : S72) [.string a1, .string tz19] (fun k_ => some k_ ≠ (.slice Ao17 tz6.length co17 : Value).ownBlock ∧ k_ ≠ gbz18) (fun _ => False) rfl rfl ?aP (fun _ hk => hk.elim) ?aF ?aO ?aB ?aS ?aL ?_
 (case aP => exact k72_mkM _ _ _ (⟨a1, tz19⟩ : S72))
 (case aB => exact (sC_ HB))
 (case aF => exact (fun k_ hk => ⟨Kd.fresh' (Kd.R_lt (pr HO_z14002)) k_ hk, Kd.freshB (pk BKz18) k_ hk⟩))
 (case aO => exact (pr HOz28))
 (case aS => exact (below_size (sC_ HB)))
 (case aL => have := LMc84.out; omega)
 intro vz34 w113 ho hb hg hat
 rw [← Nyz33.out] at ho
 have n0_ := am (Kd.R_after (ok := (fun k_ => k_ ≠ gbz18)) (pm HO_z14002 (fun _ hk => ⟨hk.2, hk.1⟩)) hg hat)
 have n1_ := am (Kd.R_over' (pr HO_z14003) (Kd.R_typed (pr HOz28)) (by decide) hg)
 have n2_ := am (blk_grown (pk BKz1) hg (Kd.R_ne HOz28.out BKz1.out (by decide)))
 have n3_ := am (blk_grown (pk BKz2) hg (Kd.R_ne HOz28.out BKz2.out (by decide)))
 have n4_ := am (blk_grown (g := gbz3) (o := .cells #[.string (⟨#[]⟩ : ByteArray), .int .i64 0, .slice none 0 0, .slice none 0 0, .bool false] 50 (0, 0)) (pk BKz3) hg (Kd.R_ne HOz28.out BKz3.out (by decide)))
 have n5_ := am (blk_grown (pk BKz13) hg (Kd.R_ne HOz28.out BKz13.out (by decide)))
 have n6_ := am (blk_grown (pk BKz18) hg (Kd.R_away HOz28.out (fun _ hk => hk.2)))
 have n7_ := am (blk_grown (pk BKz23) hg (Kd.R_ne HOz28.out BKz23.out (by decide)))
 have n8_ := am (Kd.R_over' (pr HOz31) (Kd.R_typed (pr HOz28)) (by decide) hg)
 have n9_ := am (hb)
 have n10_ := am (ho)
 clear HO_z14002 HO_z14003 BKz1 BKz2 BKz3 BKz13 BKz18 BKz23 HOz31 HB HOz28; have HO_z14002 := n0_; have HO_z14003 := n1_; have BKz1 := n2_; have BKz2 := n3_; have BKz3 := n4_; have BKz13 := n5_; have BKz18 := n6_; have BKz23 := n7_; have HOz31 := n8_; have HB := n9_; have HOz35 := n10_; clear n0_ n1_ n2_ n3_ n4_ n5_ n6_ n7_ n8_ n9_ n10_; clear ho hb hg hat
 obtain ⟨Ao116, co116, eo116⟩ := Kd.R_slice HOz35.out
 (first | subst eo116 | (injection eo116 with f1_ f2_ f3_; have f4_ := f1_.symm; have f5_ := f3_.symm; clear f1_ f2_ f3_; subst f4_; subst f5_))
 refine hK.out _ _ ⟨(blk_cell BKz23.out 0).trans rfl, (blk_cell BKz23.out 1).trans rfl, (blk_cell BKz1.out 0).trans rfl, (blk_cell BKz1.out 1).trans rfl, (blk_cell BKz1.out 2).trans rfl, (blk_cell BKz1.out 3).trans rfl, (blk_cell BKz1.out 4).trans rfl, (blk_cell BKz2.out 0).trans rfl⟩ (fun hHeld => ?_)
 clear hK K
 refine norm_ (by show Act.put _ (some 60) _ = _; simp only [Act.put, sa_, s0_, s1_, i64_w, i32_w]; rfl) ?_
 refine la_ 9 none HT_ rfl rfl (fun K hK => ?_)
 have hs114 : w113.cell? ⟨gbz1, 0, none⟩ = some (.string tz24) := (blk_cell BKz1.out 0).trans rfl
 have hfs114 := blk_frozen BKz1.out 0
 have := NBz2_z1.out
 have := NBz3_z1.out
 have := NBz13_z1.out
 have := NBz18_z1.out
 have := NBz23_z1.out
 have := NBz1_z2.out
 have := NBz1_z3.out
 have := NBz1_z13.out
 have := NBz1_z18.out
 have := NBz1_z23.out
 have hs115 : w113.cell? ⟨gbz1, 1, none⟩ = some (.int .i64 tz25) := (blk_cell BKz1.out 1).trans rfl
 have hfs115 := blk_frozen BKz1.out 1
 have := NBz2_z1.out
 have := NBz3_z1.out
 have := NBz13_z1.out
 have := NBz18_z1.out
 have := NBz23_z1.out
 have := NBz1_z2.out
 have := NBz1_z3.out
 have := NBz1_z13.out
 have := NBz1_z18.out
 have := NBz1_z23.out
 refine skip_ (by rfl) rfl (by go_simp; rfl) ?_
 refine hK.out _ _ ?_
 clear hK K
 refine pv_ 10 (some 62) HT_ ?_
 refine la_ 11 none HT_ rfl rfl (fun K hK => ?_)
 have hs117 : w113.cell? ⟨gbz1, 2, none⟩ = some (.slice Ao109 tz26.length co109) := (blk_cell BKz1.out 2).trans rfl
 have hfs117 := blk_frozen BKz1.out 2
 have := NBz2_z1.out
 have := NBz3_z1.out
 have := NBz13_z1.out
 have := NBz18_z1.out
 have := NBz23_z1.out
 have := NBz1_z2.out
 have := NBz1_z3.out
 have := NBz1_z13.out
 have := NBz1_z18.out
 have := NBz1_z23.out
 refine skip_ (by rfl) rfl (by go_simp; rfl) ?_
 refine hK.out _ _ ?_
 clear hK K
 refine done_ (done_of HT_.out (by kernel_rfl)) ?_
 obtain ⟨hcz118_0, hcz118_1, hcz118_2, hcz118_3, hcz118_4⟩ := bc5 BKz1
 obtain ⟨hfz118_0, hfz118_1, hfz118_2, hfz118_3, hfz118_4⟩ := bf5 BKz1
 try go_wp2_with (first | ((with_reducible refine gate_callee (f := 52) rfl ?_); refine goesL_ (some 64) rfl rfl Try.func52 (by kernel_rfl) rfl #[.agg #[.string tz20, .int .i64 tz21, .slice Ao116 yz33.length co116, .slice Ao110 tz29.length co110, .bool tz32]] rfl (by (try simp only [List.map_toArray, List.map_cons, List.map_nil]) <;> rfl) ?_; (with_reducible refine (ideal_clash.calls tz20 tz21 _ _ yz33 _ _ tz29 tz32 tz36 _ ?side1 ?side2 ?side3 ?side4 A85.out).mono ?_); (case side1 => refine (Kd.R_reads' (e := 72) (base := w.heap.size) (ok := fun k_ => (some k_ ≠ (.slice Ao17 tz6.length co17 : Value).ownBlock ∧ k_ ≠ gbz18)) (n := yz33.length) (c := co116) ?_).2.2; exact (by (with_reducible repeat first | apply ra | apply rn | apply rd); exact (rs3 HOz35 BKz1 (by decide)))); (case side2 => exact (Kd.R_reads' HOz35.out).2.1); (case side3 => refine (Kd.R_reads' (e := 74) (base := w.heap.size) (ok := fun k_ => some k_ ≠ (.slice Ao18 tz9.length co18 : Value).ownBlock) (n := tz29.length) (c := co110) ?_).2.2; exact (by (with_reducible repeat first | apply ra | apply rn | apply rd); exact (rs3 HOz31 BKz1 (by decide)))); (case side4 => exact (Kd.R_reads' HOz31.out).2.1); rintro e w119 ⟨rfl, hb⟩; refine ⟨_, rfl, ?_⟩; have n0_ := am (Kd.R_below (by (with_reducible repeat first | apply ra | apply rn | apply rd); exact (rs3 HO_z14002 BKz1 (by decide))) hb); have n1_ := am (Kd.R_below (by (with_reducible repeat first | apply ra | apply rn | apply rd); exact (rs3 HO_z14003 BKz1 (by decide))) hb); have n2_ := am (Kd.R_below (by (with_reducible repeat first | apply ra | apply rn | apply rd); exact (rs3 HOz31 BKz1 (by decide))) hb); have n3_ := am (Kd.R_below (by (with_reducible repeat first | apply ra | apply rn | apply rd); exact (rs3 HOz35 BKz1 (by decide))) hb); have n4_ := am (bkB (g := gbz1) (o := .cells #[.string tz20, .int .i64 tz21, .slice Ao116 yz33.length co116, .slice Ao110 tz29.length co110, .bool tz32] 50 (0, 0)) (by (with_reducible repeat (first | refine blk_drewN ?_ _ | refine bkD ?_ | refine bkA ?_ _)); refine blk_put (cs := #[.string tz20, .int .i64 tz21, .slice Ao109 tz26.length co109, .slice Ao110 tz29.length co110, .bool tz32]) ?_ 2 _ rfl; refine blk_put (cs := #[.string tz20, .int .i64 tz25, .slice Ao109 tz26.length co109, .slice Ao110 tz29.length co110, .bool tz32]) ?_ 1 _ rfl; refine blk_put (cs := #[.string tz24, .int .i64 tz25, .slice Ao109 tz26.length co109, .slice Ao110 tz29.length co110, .bool tz32]) ?_ 0 _ rfl; exact pk BKz1) hb); have n5_ := am (bkB (g := gbz2) (o := .cells #[.string a1] 9 (0, 0)) (by (with_reducible repeat (first | refine blk_drewN ?_ _ | refine bkD ?_ | refine bkA ?_ _)); refine blk_far ?_ NBz2_z1.out _; refine blk_far ?_ NBz2_z1.out _; refine blk_far ?_ NBz2_z1.out _; exact pk BKz2) hb); have n6_ := am (bkB (g := gbz3) (o := .cells #[.string (⟨#[]⟩ : ByteArray), .int .i64 0, .slice none 0 0, .slice none 0 0, .bool false] 50 (0, 0)) (by (with_reducible repeat (first | refine blk_drewN ?_ _ | refine bkD ?_ | refine bkA ?_ _)); refine blk_far ?_ NBz3_z1.out _; refine blk_far ?_ NBz3_z1.out _; refine blk_far ?_ NBz3_z1.out _; exact pk BKz3) hb); have n7_ := am (bkB (g := gbz13) (o := .cells #[.string tz4, .int .i64 tz5, .slice Ao17 tz6.length co17, .slice Ao18 tz9.length co18, .bool tz12] 50 (0, 0)) (by (with_reducible repeat (first | refine blk_drewN ?_ _ | refine bkD ?_ | refine bkA ?_ _)); refine blk_far ?_ NBz13_z1.out _; refine blk_far ?_ NBz13_z1.out _; refine blk_far ?_ NBz13_z1.out _; exact pk BKz13) hb); have n8_ := am (bkB (g := gbz18) (o := .cells #[.string tz15, .string tz16] 72 (0, 0)) (by (with_reducible repeat (first | refine blk_drewN ?_ _ | refine bkD ?_ | refine bkA ?_ _)); refine blk_far ?_ NBz18_z1.out _; refine blk_far ?_ NBz18_z1.out _; refine blk_far ?_ NBz18_z1.out _; exact pk BKz18) hb); have n9_ := am (bkB (g := gbz23) (o := .cells #[.string tz20, .int .i64 tz21] 23 (0, 0)) (by (with_reducible repeat (first | refine blk_drewN ?_ _ | refine bkD ?_ | refine bkA ?_ _)); refine blk_far ?_ NBz23_z1.out _; refine blk_far ?_ NBz23_z1.out _; refine blk_far ?_ NBz23_z1.out _; exact pk BKz23) hb); have n10_ := am (below_step (sC_ HB) hb); clear HO_z14002; clear HO_z14003; clear HOz31; clear HOz35; clear BKz1; clear BKz2; clear BKz3; clear BKz13; clear BKz18; clear BKz23; clear HB; have HO_z14002 := n0_; have HO_z14003 := n1_; have HOz31 := n2_; have HOz35 := n3_; have BKz1 := n4_; have BKz2 := n5_; have BKz3 := n6_; have BKz13 := n7_; have BKz18 := n8_; have BKz23 := n9_; have HB := n10_; clear n0_ n1_ n2_ n3_ n4_ n5_ n6_ n7_ n8_ n9_ n10_; obtain ⟨hcz120_0, hcz120_1, hcz120_2, hcz120_3, hcz120_4⟩ := bc5 BKz1; obtain ⟨hfz120_0, hfz120_1, hfz120_2, hfz120_3, hfz120_4⟩ := bf5 BKz1))
 have n0_ : Aside0 (Kd.R k72 72 (w119.setCell ⟨gbz1, 4, none⟩ (.bool tz36)) w.heap.size (fun k_ => some k_ ≠ (.slice Ao116 yz33.length co116 : Value).ownBlock ∧ k_ ≠ gbz18) (.slice Ao17 tz6.length co17) tz6) := ⟨by (with_reducible repeat first | apply ra | apply rn | apply rd); exact Kd.R_mono (Kd.R_far (p := ⟨gbz1, 4, none⟩) (Kd.R_types HO_z14002.out BKz1.out (by decide)) (fun _ hk => hk.2) (.bool tz36)) (fun _ hk => ⟨hk.1.2, hk.1.1⟩)⟩
 have n1_ : Aside0 (Kd.R k74 74 (w119.setCell ⟨gbz1, 4, none⟩ (.bool tz36)) w.heap.size (fun k_ => some k_ ≠ (.slice Ao110 tz29.length co110 : Value).ownBlock) (.slice Ao18 tz9.length co18) tz9) := ⟨by (with_reducible repeat first | apply ra | apply rn | apply rd); exact Kd.R_mono (Kd.R_far (p := ⟨gbz1, 4, none⟩) (Kd.R_types HO_z14003.out BKz1.out (by decide)) (fun _ hk => hk.2) (.bool tz36)) (fun _ hk => hk.1)⟩
 have n2_ : Aside0 (Kd.R k74 74 (w119.setCell ⟨gbz1, 4, none⟩ (.bool tz36)) w.heap.size (fun k_ => some k_ ≠ (.slice Ao18 tz9.length co18 : Value).ownBlock) (.slice Ao110 tz29.length co110) tz29) := ⟨by (with_reducible repeat first | apply ra | apply rn | apply rd); exact Kd.R_mono (Kd.R_far (p := ⟨gbz1, 4, none⟩) (Kd.R_types HOz31.out BKz1.out (by decide)) (fun _ hk => hk.2) (.bool tz36)) (fun _ hk => hk.1)⟩
 have n3_ : Aside0 (Kd.R k72 72 (w119.setCell ⟨gbz1, 4, none⟩ (.bool tz36)) w.heap.size (fun k_ => some k_ ≠ (.slice Ao17 tz6.length co17 : Value).ownBlock ∧ k_ ≠ gbz18) (.slice Ao116 yz33.length co116) yz33) := ⟨by (with_reducible repeat first | apply ra | apply rn | apply rd); exact Kd.R_mono (Kd.R_far (p := ⟨gbz1, 4, none⟩) (Kd.R_types HOz35.out BKz1.out (by decide)) (fun _ hk => hk.2) (.bool tz36)) (fun _ hk => ⟨hk.1.1, hk.1.2⟩)⟩
 have n4_ : Aside0 ((w119.setCell ⟨gbz1, 4, none⟩ (.bool tz36)).heap[gbz1]? = some (.cells #[.string tz20, .int .i64 tz21, .slice Ao116 yz33.length co116, .slice Ao110 tz29.length co110, .bool tz36] 50 (0, 0))) := ⟨by (with_reducible repeat (first | refine blk_drewN ?_ _ | refine bkD ?_ | refine bkA ?_ _)); refine blk_put (cs := #[.string tz20, .int .i64 tz21, .slice Ao116 yz33.length co116, .slice Ao110 tz29.length co110, .bool tz32]) ?_ 4 _ rfl; (with_reducible repeat (first | refine blk_drewN ?_ _ | refine bkD ?_ | refine bkA ?_ _)); exact BKz1.out⟩
 have n5_ : Aside0 ((w119.setCell ⟨gbz1, 4, none⟩ (.bool tz36)).heap[gbz2]? = some (.cells #[.string a1] 9 (0, 0))) := ⟨by (with_reducible repeat (first | refine blk_drewN ?_ _ | refine bkD ?_ | refine bkA ?_ _)); refine blk_far ?_ NBz2_z1.out _; (with_reducible repeat (first | refine blk_drewN ?_ _ | refine bkD ?_ | refine bkA ?_ _)); exact BKz2.out⟩
 have n6_ : Aside0 ((w119.setCell ⟨gbz1, 4, none⟩ (.bool tz36)).heap[gbz3]? = some (.cells #[.string (⟨#[]⟩ : ByteArray), .int .i64 0, .slice none 0 0, .slice none 0 0, .bool false] 50 (0, 0))) := ⟨by (with_reducible repeat (first | refine blk_drewN ?_ _ | refine bkD ?_ | refine bkA ?_ _)); refine blk_far ?_ NBz3_z1.out _; (with_reducible repeat (first | refine blk_drewN ?_ _ | refine bkD ?_ | refine bkA ?_ _)); exact BKz3.out⟩
 have n7_ : Aside0 ((w119.setCell ⟨gbz1, 4, none⟩ (.bool tz36)).heap[gbz13]? = some (.cells #[.string tz4, .int .i64 tz5, .slice Ao17 tz6.length co17, .slice Ao18 tz9.length co18, .bool tz12] 50 (0, 0))) := ⟨by (with_reducible repeat (first | refine blk_drewN ?_ _ | refine bkD ?_ | refine bkA ?_ _)); refine blk_far ?_ NBz13_z1.out _; (with_reducible repeat (first | refine blk_drewN ?_ _ | refine bkD ?_ | refine bkA ?_ _)); exact BKz13.out⟩
 have n8_ : Aside0 ((w119.setCell ⟨gbz1, 4, none⟩ (.bool tz36)).heap[gbz18]? = some (.cells #[.string tz15, .string tz16] 72 (0, 0))) := ⟨by (with_reducible repeat (first | refine blk_drewN ?_ _ | refine bkD ?_ | refine bkA ?_ _)); refine blk_far ?_ NBz18_z1.out _; (with_reducible repeat (first | refine blk_drewN ?_ _ | refine bkD ?_ | refine bkA ?_ _)); exact BKz18.out⟩
 have n9_ : Aside0 ((w119.setCell ⟨gbz1, 4, none⟩ (.bool tz36)).heap[gbz23]? = some (.cells #[.string tz20, .int .i64 tz21] 23 (0, 0))) := ⟨by (with_reducible repeat (first | refine blk_drewN ?_ _ | refine bkD ?_ | refine bkA ?_ _)); refine blk_far ?_ NBz23_z1.out _; (with_reducible repeat (first | refine blk_drewN ?_ _ | refine bkD ?_ | refine bkA ?_ _)); exact BKz23.out⟩
 have n10_ : Aside0 (Below w.heap.size w (w119.setCell ⟨gbz1, 4, none⟩ (.bool tz36))) := (sB_ HB)
 (try clear HO_z14002); (try clear HO_z14003); (try clear HOz31); (try clear HOz35); (try clear BKz1); (try clear BKz2); (try clear BKz3); (try clear BKz13); (try clear BKz18); (try clear BKz23); (try clear HB)
 generalize (w119.setCell ⟨gbz1, 4, none⟩ (.bool tz36)) = w121 at n0_ n1_ n2_ n3_ n4_ n5_ n6_ n7_ n8_ n9_ n10_ ⊢
 have HO_z14002 := n0_; have HO_z14003 := n1_; have HOz31 := n2_; have HOz35 := n3_; have BKz1 := n4_; have BKz2 := n5_; have BKz3 := n6_; have BKz13 := n7_; have BKz18 := n8_; have BKz23 := n9_; have HB := n10_; clear n0_ n1_ n2_ n3_ n4_ n5_ n6_ n7_ n8_ n9_ n10_
 have n0_ := am (Kd.R_drew HO_z14002.out)
 have n1_ := am (Kd.R_drew HO_z14003.out)
 have n2_ := am (Kd.R_drew HOz31.out)
 have n3_ := am (Kd.R_drew HOz35.out)
 have n4_ := am (bkD BKz1.out)
 have n5_ := am (bkD BKz2.out)
 have n6_ := am (bkD BKz3.out)
 have n7_ := am (bkD BKz13.out)
 have n8_ := am (bkD BKz18.out)
 have n9_ := am (bkD BKz23.out)
 have n10_ := am (below_drew1 HB.out)
 clear HO_z14002 HO_z14003 HOz31 HOz35 BKz1 BKz2 BKz3 BKz13 BKz18 BKz23 HB; have HO_z14002 := n0_; have HO_z14003 := n1_; have HOz31 := n2_; have HOz35 := n3_; have BKz1 := n4_; have BKz2 := n5_; have BKz3 := n6_; have BKz13 := n7_; have BKz18 := n8_; have BKz23 := n9_; have HB := n10_; clear n0_ n1_ n2_ n3_ n4_ n5_ n6_ n7_ n8_ n9_ n10_
 refine start_ (n := 5) (S := fun w' => w'.cell? ⟨gbz1, 0, none⟩ = some (.string tz20) ∧ w'.cell? ⟨gbz1, 1, none⟩ = some (.int .i64 tz21) ∧ w'.cell? ⟨gbz1, 2, none⟩ = some (.slice Ao116 yz33.length co116) ∧ w'.cell? ⟨gbz1, 3, none⟩ = some (.slice Ao110 tz29.length co110) ∧ w'.cell? ⟨gbz1, 4, none⟩ = some (.bool tz36)) (ds := []) #[false, false, false, false, false] (by kernel_rfl) rfl rfl (bc5 BKz1) (fun hHeld => ?_)
 generalize w121.drew = w122 at HO_z14002 HO_z14003 HOz31 HOz35 BKz1 BKz2 BKz3 BKz13 BKz18 BKz23 HB hHeld ⊢
 refine pn_ 0 (some 66) rfl rfl (.inl ⟨by rfl, by intro w'; go_simp; with_reducible rfl⟩) (by simp only [Act.put, sa_, s0_, s1_, i64_w, i32_w]; rfl) ?_
 refine pn_ 2 (some 4) rfl rfl (.inl ⟨by rfl, by intro w'; go_simp; with_reducible rfl⟩) (by simp only [Act.put, sa_, s0_, s1_, i64_w, i32_w]; rfl) ?_
 refine tn_ 1 (some 67) rfl rfl (.inl ⟨by rfl, by rintro w' ⟨s0, s1, s2, s3, s4⟩; go_simp; with_reducible rfl⟩) hHeld (by simp only [Act.put, sa_, s0_, s1_, i64_w, i32_w]; rfl) ?_
 refine one_ (i := 3) (N := none) #[true, true, true, true, false] rfl rfl (by kernel_rfl) (by decide) (fun K hK => ?_)
 have hs123 : w122.cell? ⟨gbz3, 0, none⟩ = some (.string (⟨#[]⟩ : ByteArray)) := (blk_cell BKz3.out 0).trans rfl
 have hfs123 := blk_frozen BKz3.out 0
 have := NBz1_z3.out
 have := NBz2_z3.out
 have := NBz13_z3.out
 have := NBz18_z3.out
 have := NBz23_z3.out
 have := NBz3_z1.out
 have := NBz3_z2.out
 have := NBz3_z13.out
 have := NBz3_z18.out
 have := NBz3_z23.out
 have hs124 : w122.cell? ⟨gbz3, 1, none⟩ = some (.int .i64 0) := (blk_cell BKz3.out 1).trans rfl
 have hfs124 := blk_frozen BKz3.out 1
 have := NBz1_z3.out
 have := NBz2_z3.out
 have := NBz13_z3.out
 have := NBz18_z3.out
 have := NBz23_z3.out
 have := NBz3_z1.out
 have := NBz3_z2.out
 have := NBz3_z13.out
 have := NBz3_z18.out
 have := NBz3_z23.out
 have hs125 : w122.cell? ⟨gbz3, 2, none⟩ = some (.slice none 0 0) := (blk_cell BKz3.out 2).trans rfl
 have hfs125 := blk_frozen BKz3.out 2
 have := NBz1_z3.out
 have := NBz2_z3.out
 have := NBz13_z3.out
 have := NBz18_z3.out
 have := NBz23_z3.out
 have := NBz3_z1.out
 have := NBz3_z2.out
 have := NBz3_z13.out
 have := NBz3_z18.out
 have := NBz3_z23.out
 have hs126 : w122.cell? ⟨gbz3, 3, none⟩ = some (.slice none 0 0) := (blk_cell BKz3.out 3).trans rfl
 have hfs126 := blk_frozen BKz3.out 3
 have := NBz1_z3.out
 have := NBz2_z3.out
 have := NBz13_z3.out
 have := NBz18_z3.out
 have := NBz23_z3.out
 have := NBz3_z1.out
 have := NBz3_z2.out
 have := NBz3_z13.out
 have := NBz3_z18.out
 have := NBz3_z23.out
 have hs127 : w122.cell? ⟨gbz3, 4, none⟩ = some (.bool false) := (blk_cell BKz3.out 4).trans rfl
 have hfs127 := blk_frozen BKz3.out 4
 have := NBz1_z3.out
 have := NBz2_z3.out
 have := NBz13_z3.out
 have := NBz18_z3.out
 have := NBz23_z3.out
 have := NBz3_z1.out
 have := NBz3_z2.out
 have := NBz3_z13.out
 have := NBz3_z18.out
 have := NBz3_z23.out
 refine skip_ (by rfl) rfl (by go_simp; rfl) ?_
 refine hK.out _ _ ⟨((cf5 NBz1_z3).trans (hHeld.1)), ((cf5 NBz1_z3).trans (hHeld.2.1)), ((cf5 NBz1_z3).trans (hHeld.2.2.1)), ((cf5 NBz1_z3).trans (hHeld.2.2.2.1)), ((cf5 NBz1_z3).trans (hHeld.2.2.2.2))⟩ (fun hHeld => ?_)
 clear hK K
 refine pn_ 4 (some 6) rfl rfl (.inl ⟨by rfl, by intro w'; go_simp; with_reducible rfl⟩) (by simp only [Act.put, sa_, s0_, s1_, i64_w, i32_w]; rfl) ?_
 refine done_ (by kernel_rfl) ?_
 try go_wp2
 refine bodyPost_ret (results_list (rs := [.tmp 4, .cell 5 50, .tmp 6]) rfl (by simp) (.tmp (.cell gbz3 50 #[.string tz20, .int .i64 tz21, .slice Ao116 yz33.length co116, .slice Ao110 tz29.length co110, .bool tz36] (0, 0) _ rfl (by (with_reducible repeat (first | refine blk_drewN ?_ _ | refine bkD ?_ | refine bkA ?_ _)); apply bp5; exact pk BKz3) Try.underlying50 rfl (by kernel_rfl) (.tmp .nil)))) rfl ?_
 exact ⟨_, _, by first | rfl | (simp <;> rfl) | (simp [*] <;> rfl), by (with_reducible repeat first | apply ra | apply rn | apply rd); exact Kd.R_mono (rf5 (Kd.R_types HOz35.out BKz3.out (by decide)) (fun _ hk => hk.2)) (fun _ hk => trivial), by (with_reducible repeat first | apply ra | apply rn | apply rd); exact Kd.R_mono (rf5 (Kd.R_types HOz31.out BKz3.out (by decide)) (fun _ hk => hk.2)) (fun _ hk => trivial), sC_ HB⟩
end Go.Proofs.Ytmkncddbecmlpaa.Pr
end
