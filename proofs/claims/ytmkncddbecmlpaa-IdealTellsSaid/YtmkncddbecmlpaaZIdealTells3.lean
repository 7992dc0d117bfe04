/-
  A part of what the row IdealTells reaches, laid together by a program of this session (wip/tools/shake.py) out of this seat's texts. No condition but the ones that each lemma names.
-/
import Derived.Test.YtmkncddbecmlpaaZIdealTells1
import Derived.Test.YtmkncddbecmlpaaZIdealTells2
set_option linter.unusedVariables false
set_option linter.unusedSimpArgs false
section
namespace Go.Proofs.Ytmkncddbecmlpaa.Pr
open Go.Proofs.Ytmkncddbecmlpaa.Sq Go.RowKit Go.Proofs.YtmkncddbecmlpaaW.PrintWords Go.Proofs.YtmkncddbecmlpaaW.PrintLast Go.Proofs.YtmkncddbecmlpaaW.PrintMore
attribute [local go_sem] max2_int min2_int max_two min_two max_three min_three max_four min_four
set_option linter.unusedVariables false
set_option linter.unusedSimpArgs false
def ideal_New.f (a0_0 : ByteArray) (a0_1 : Int) : Option (ByteArray × Int × (List (S72)) × (List (S74)) × Bool × Int) := (tape_Right.f a0_0 a0_1).bind fun tz3 => (if tz3 = true then (some (a0_0, a0_1, ([] : List (S72)), ([] : List (S74)), false, 0)) else (some ((⟨#[]⟩ : ByteArray), 0, ([] : List (S72)), ([] : List (S74)), false, 1)))
set_option maxHeartbeats 8000000 in
set_option maxRecDepth 100000 in
theorem ideal_New.calls (a0_0 : ByteArray) (a0_1 : Int) (r1 : ByteArray) (r2 : Int) (r3 : List (S72)) (r4 : List (S74)) (r5 : Bool) (r6 : Int) (w : World) (h : ideal_New.f a0_0 a0_1 = some (r1, r2, r3, r4, r5, r6)) :
  Calls Try.prog 30 #[.agg #[.string a0_0, .int .i64 a0_1]] w fun e w' => ∃ v2_ v3_ : Value, e = .returned (.tuple #[.agg #[.string r1, .int .i64 r2, v2_, v3_, .bool r5], .int .i64 r6]) ∧ Kd.R k72 72 w' w.heap.size (fun _ => True) v2_ r3 ∧ Kd.R k74 74 w' w.heap.size (fun _ => True) v3_ r4 ∧ Below w.heap.size w w' := by
 have hu23 := Try.underlying23
 have hu50 := Try.underlying50
 have HB := am (Below.refl w.heap.size w)
 have H : ((tape_Right.f a0_0 a0_1).bind fun tz3 => (if tz3 = true then (some (a0_0, a0_1, ([] : List (S72)), ([] : List (S74)), false, 0)) else (some ((⟨#[]⟩ : ByteArray), 0, ([] : List (S72)), ([] : List (S74)), false, 1)))) = some (r1, r2, r3, r4, r5, r6) := h
 clear h
 replace H := ob_ H
 obtain ⟨tz3, A20, H⟩ := H
 replace H : (if tz3 = true then (some (a0_0, a0_1, ([] : List (S72)), ([] : List (S74)), false, 0)) else (some ((⟨#[]⟩ : ByteArray), 0, ([] : List (S72)), ([] : List (S74)), false, 1))) = some (r1, r2, r3, r4, r5, r6) := H
 have A2 := Aside0.mk A20
 clear A20
 by_cases c3 : tz3 = true
 rotate_left
 ·replace c3 := Bool.eq_false_iff.mpr c3
  subst c3
  have H1 : (some ((⟨#[]⟩ : ByteArray), 0, ([] : List (S72)), ([] : List (S74)), false, 1)) = some (r1, r2, r3, r4, r5, r6) := by rw [if_neg (show ¬ (false = true) by decide)] at H; exact H
  clear H
  have H := H1
  clear H1
  simp only [Option.some.injEq, Prod.mk.injEq] at H
  obtain ⟨rfl, rfl, rfl, rfl, rfl, rfl⟩ := H
  go_enter Try.func30, Try.ntmps30
  go_wp2_with (first | ((with_reducible refine gate_dst (N := 1) rfl ?_); refine box_event ?hg (N := 1) ?hd (cs := #[.string a0_0, .int .i64 a0_1]) (t := 23) ?hr ?_; (case hd => rfl); (case hg => rfl); (case hr => first | (go_simp; done) | (go_simp; rfl)); intro gbz1 hg w11 hbox hb; have n0_ := am (below_step (pb HB) hb); have n1_ := am (hbox); have n2_ := ge_ hg (pb HB); have n3_ := ge_ hg (pb HB); clear HB; have HB := n0_; have BKz1 := n1_; have GWz1 := n2_; have GEz1 := n3_; clear n0_ n1_ n2_ n3_; clear hb hbox hg) | ((with_reducible refine gate_dst (N := 2) rfl ?_); refine box_event ?hg (N := 2) ?hd (cs := #[.string (⟨#[]⟩ : ByteArray), .int .i64 0, .slice none 0 0, .slice none 0 0, .bool false]) (t := 50) ?hr ?_; (case hd => rfl); (case hg => rfl); (case hr => first | (go_simp; done) | (go_simp; rfl)); intro gbz2 hg w12 hbox hb; have n0_ := am (bkB (pk BKz1) hb); have n1_ := am (below_step (sC_ HB) hb); have n2_ := am (hbox); have n3_ := ge_ hg (sC_ HB); have n4_ := ge_ hg (sC_ HB); have n5_ := nl_ hg BKz1; have n6_ := ng_ hg BKz1; clear BKz1; clear HB; have BKz1 := n0_; have HB := n1_; have BKz2 := n2_; have GWz2 := n3_; have GEz2 := n4_; have NBz1_z2 := n5_; have NBz2_z1 := n6_; clear n0_ n1_ n2_ n3_ n4_ n5_ n6_; clear hb hbox hg; have hnb13 := NBz1_z2.out; have hnc13 := NBz2_z1.out; obtain ⟨hcz14_0, hcz14_1⟩ := bc2 BKz1; obtain ⟨hfz14_0, hfz14_1⟩ := bf2 BKz1) | ((with_reducible refine gate_callee (f := 16) rfl ?_); refine goesL_ (some 5) rfl rfl Try.func16 (by kernel_rfl) rfl #[.agg #[.string a0_0, .int .i64 a0_1]] rfl (by (try simp only [List.map_toArray, List.map_cons, List.map_nil]) <;> rfl) ?_; (with_reducible refine (tape_Right.calls a0_0 a0_1 false _ A2.out).mono ?_); rintro e w15 ⟨rfl, hb⟩; refine ⟨_, rfl, ?_⟩; have n0_ := am (bkB (pk BKz1) hb); have n1_ := am (bkB (g := gbz2) (o := .cells #[.string (⟨#[]⟩ : ByteArray), .int .i64 0, .slice none 0 0, .slice none 0 0, .bool false] 50 (0, 0)) (pk BKz2) hb); have n2_ := am (below_step (sC_ HB) hb); clear BKz1; clear BKz2; clear HB; have BKz1 := n0_; have BKz2 := n1_; have HB := n2_; clear n0_ n1_ n2_; obtain ⟨hcz16_0, hcz16_1, hcz16_2, hcz16_3, hcz16_4⟩ := bc5 BKz2; obtain ⟨hfz16_0, hfz16_1, hfz16_2, hfz16_3, hfz16_4⟩ := bf5 BKz2))
  refine bodyPost_ret (results_ct rfl _ _ gbz2 50 #[.string (⟨#[]⟩ : ByteArray), .int .i64 0, .slice none 0 0, .slice none 0 0, .bool false] (0, 0) _ rfl (by (with_reducible repeat (first | refine blk_drewN ?_ _ | refine bkD ?_ | refine bkA ?_ _)); apply bp5; exact pk BKz2) Try.underlying50 rfl (by kernel_rfl)) rfl ?_
  exact ⟨_, _, by first | rfl | (simp <;> rfl) | (simp [*] <;> rfl), by exact Kd.R_nil _ _ _ _ _, by exact Kd.R_nil _ _ _ _ _, sC_ HB⟩
 subst c3
 have H1 : (some (a0_0, a0_1, ([] : List (S72)), ([] : List (S74)), false, 0)) = some (r1, r2, r3, r4, r5, r6) := by rw [if_pos rfl] at H; exact H
 clear H
 have H := H1
 clear H1
 simp only [Option.some.injEq, Prod.mk.injEq] at H
 obtain ⟨rfl, rfl, rfl, rfl, rfl, rfl⟩ := H
 go_enter Try.func30, Try.ntmps30
 go_wp2_with (first | ((with_reducible refine gate_dst (N := 1) rfl ?_); refine box_event ?hg (N := 1) ?hd (cs := #[.string a0_0, .int .i64 a0_1]) (t := 23) ?hr ?_; (case hd => rfl); (case hg => rfl); (case hr => first | (go_simp; done) | (go_simp; rfl)); intro gbz1 hg w4 hbox hb; have n0_ := am (below_step (pb HB) hb); have n1_ := am (hbox); have n2_ := ge_ hg (pb HB); have n3_ := ge_ hg (pb HB); clear HB; have HB := n0_; have BKz1 := n1_; have GWz1 := n2_; have GEz1 := n3_; clear n0_ n1_ n2_ n3_; clear hb hbox hg) | ((with_reducible refine gate_dst (N := 2) rfl ?_); refine box_event ?hg (N := 2) ?hd (cs := #[.string (⟨#[]⟩ : ByteArray), .int .i64 0, .slice none 0 0, .slice none 0 0, .bool false]) (t := 50) ?hr ?_; (case hd => rfl); (case hg => rfl); (case hr => first | (go_simp; done) | (go_simp; rfl)); intro gbz2 hg w5 hbox hb; have n0_ := am (bkB (pk BKz1) hb); have n1_ := am (below_step (sC_ HB) hb); have n2_ := am (hbox); have n3_ := ge_ hg (sC_ HB); have n4_ := ge_ hg (sC_ HB); have n5_ := nl_ hg BKz1; have n6_ := ng_ hg BKz1; clear BKz1; clear HB; have BKz1 := n0_; have HB := n1_; have BKz2 := n2_; have GWz2 := n3_; have GEz2 := n4_; have NBz1_z2 := n5_; have NBz2_z1 := n6_; clear n0_ n1_ n2_ n3_ n4_ n5_ n6_; clear hb hbox hg; have hnb6 := NBz1_z2.out; have hnc6 := NBz2_z1.out; obtain ⟨hcz7_0, hcz7_1⟩ := bc2 BKz1; obtain ⟨hfz7_0, hfz7_1⟩ := bf2 BKz1) | ((with_reducible refine gate_callee (f := 16) rfl ?_); refine goesL_ (some 5) rfl rfl Try.func16 (by kernel_rfl) rfl #[.agg #[.string a0_0, .int .i64 a0_1]] rfl (by (try simp only [List.map_toArray, List.map_cons, List.map_nil]) <;> rfl) ?_; (with_reducible refine (tape_Right.calls a0_0 a0_1 true _ A2.out).mono ?_); rintro e w8 ⟨rfl, hb⟩; refine ⟨_, rfl, ?_⟩; have n0_ := am (bkB (pk BKz1) hb); have n1_ := am (bkB (g := gbz2) (o := .cells #[.string (⟨#[]⟩ : ByteArray), .int .i64 0, .slice none 0 0, .slice none 0 0, .bool false] 50 (0, 0)) (pk BKz2) hb); have n2_ := am (below_step (sC_ HB) hb); clear BKz1; clear BKz2; clear HB; have BKz1 := n0_; have BKz2 := n1_; have HB := n2_; clear n0_ n1_ n2_; obtain ⟨hcz9_0, hcz9_1⟩ := bc2 BKz1; obtain ⟨hfz9_0, hfz9_1⟩ := bf2 BKz1; obtain ⟨hcz10_0, hcz10_1, hcz10_2, hcz10_3, hcz10_4⟩ := bc5 BKz2; obtain ⟨hfz10_0, hfz10_1, hfz10_2, hfz10_3, hfz10_4⟩ := bf5 BKz2))
 refine bodyPost_ret (results_ct rfl _ _ gbz2 50 #[.string a0_0, .int .i64 a0_1, .slice none 0 0, .slice none 0 0, .bool false] (0, 0) _ rfl (by (with_reducible repeat (first | refine blk_drewN ?_ _ | refine bkD ?_ | refine bkA ?_ _)); apply bp5; exact pk BKz2) Try.underlying50 rfl (by kernel_rfl)) rfl ?_
 exact ⟨_, _, by first | rfl | (simp <;> rfl) | (simp [*] <;> rfl), by exact Kd.R_nil _ _ _ _ _, by exact Kd.R_nil _ _ _ _ _, sC_ HB⟩
end Go.Proofs.Ytmkncddbecmlpaa.Pr
end
section
namespace Go.Proofs.Ytmkncddbecmlpaa.Pr
open Go.Proofs.Ytmkncddbecmlpaa.Sq Go.RowKit Go.Proofs.YtmkncddbecmlpaaW.PrintWords Go.Proofs.YtmkncddbecmlpaaW.PrintLast Go.Proofs.YtmkncddbecmlpaaW.PrintMore
attribute [local go_sem] max2_int min2_int max_two min_two max_three min_three max_four min_four
set_option linter.unusedVariables false
set_option linter.unusedSimpArgs false
def ideal_Open.f (a0_0 : ByteArray) (a0_1 : Int) (l0_2 : List (S72)) (l0_3 : List (S74)) (a0_4 : Bool) (a1 : ByteArray) (a2 : ByteArray) : Option (ByteArray × Int) := (ideal_Right.f a0_0 a0_1 l0_2 l0_3 a0_4).bind fun tz4 => (if tz4 = true then ((ideal_find_67.f l0_3 a1 a2).bind fun btz5 => (if btz5.2.2.2 = true then (some (btz5.2.1, 0)) else (some ((⟨#[]⟩ : ByteArray), 11)))) else (some ((⟨#[]⟩ : ByteArray), 1)))
set_option maxHeartbeats 8000000 in
set_option maxRecDepth 100000 in
theorem ideal_Open.calls (a0_0 : ByteArray) (a0_1 : Int) (A0_2 : Option Addr) (c0_2 : Nat) (l0_2 : List (S72)) (A0_3 : Option Addr) (c0_3 : Nat) (l0_3 : List (S74)) (a0_4 : Bool) (a1 : ByteArray) (a2 : ByteArray) (r1 : ByteArray) (r2 : Int) (w : World) (hr0_2 : Kd.C k72 w A0_2 l0_2.length l0_2) (hc0_2 : l0_2.length ≤ c0_2) (hr0_3 : Kd.C k74 w A0_3 l0_3.length l0_3) (hc0_3 : l0_3.length ≤ c0_3) (h : ideal_Open.f a0_0 a0_1 l0_2 l0_3 a0_4 a1 a2 = some (r1, r2)) :
  Calls Try.prog 43 #[.agg #[.string a0_0, .int .i64 a0_1, .slice A0_2 l0_2.length c0_2, .slice A0_3 l0_3.length c0_3, .bool a0_4], .string a1, .string a2] w fun e w' => e = .returned (.tuple #[.string r1, .int .i64 r2]) ∧ Below w.heap.size w w' := by
 have hu50 := Try.underlying50
 have hu74 := Try.underlying74
 have HR0_2 := am hr0_2
 have HC0_2 := am hc0_2
 clear hr0_2 hc0_2
 have HR0_3 := am hr0_3
 have HC0_3 := am hc0_3
 clear hr0_3 hc0_3
 have HB := am (Below.refl w.heap.size w)
 have H : ((ideal_Right.f a0_0 a0_1 l0_2 l0_3 a0_4).bind fun tz4 => (if tz4 = true then ((ideal_find_67.f l0_3 a1 a2).bind fun btz5 => (if btz5.2.2.2 = true then (some (btz5.2.1, 0)) else (some ((⟨#[]⟩ : ByteArray), 11)))) else (some ((⟨#[]⟩ : ByteArray), 1)))) = some (r1, r2) := h
 clear h
 replace H := ob_ H
 obtain ⟨tz4, A40, H⟩ := H
 replace H : (if tz4 = true then ((ideal_find_67.f l0_3 a1 a2).bind fun btz5 => (if btz5.2.2.2 = true then (some (btz5.2.1, 0)) else (some ((⟨#[]⟩ : ByteArray), 11)))) else (some ((⟨#[]⟩ : ByteArray), 1))) = some (r1, r2) := H
 have A4 := Aside0.mk A40
 clear A40
 by_cases c5 : tz4 = true
 rotate_left
 ·replace c5 := Bool.eq_false_iff.mpr c5
  subst c5
  have H1 : (some ((⟨#[]⟩ : ByteArray), 1)) = some (r1, r2) := by rw [if_neg (show ¬ (false = true) by decide)] at H; exact H
  clear H
  have H := H1
  clear H1
  simp only [Option.some.injEq, Prod.mk.injEq] at H
  obtain ⟨rfl, rfl⟩ := H
  go_enter Try.func43, Try.ntmps43
  go_wp2_with (first | ((with_reducible refine gate_dst (N := 3) rfl ?_); refine box_event ?hg (N := 3) ?hd (cs := #[.string a0_0, .int .i64 a0_1, .slice A0_2 l0_2.length c0_2, .slice A0_3 l0_3.length c0_3, .bool a0_4]) (t := 50) ?hr ?_; (case hd => rfl); (case hg => rfl); (case hr => first | (go_simp; done) | (go_simp; rfl)); intro gbz1 hg w36 hbox hb; have n0_ := am (below_step (pb HB) hb); have n1_ := am (hbox); have n2_ := ge_ hg (pb HB); have n3_ := ge_ hg (pb HB); clear HB; have HB := n0_; have BKz1 := n1_; have GWz1 := n2_; have GEz1 := n3_; clear n0_ n1_ n2_ n3_; clear hb hbox hg) | ((with_reducible refine gate_dst (N := 4) rfl ?_); refine box_event ?hg (N := 4) ?hd (cs := #[.string a1]) (t := 9) ?hr ?_; (case hd => rfl); (case hg => rfl); (case hr => first | (go_simp; done) | (go_simp; rfl)); intro gbz2 hg w37 hbox hb; have n0_ := am (bkB (pk BKz1) hb); have n1_ := am (below_step (sC_ HB) hb); have n2_ := am (hbox); have n3_ := ge_ hg (sC_ HB); have n4_ := ge_ hg (sC_ HB); have n5_ := nl_ hg BKz1; have n6_ := ng_ hg BKz1; clear BKz1; clear HB; have BKz1 := n0_; have HB := n1_; have BKz2 := n2_; have GWz2 := n3_; have GEz2 := n4_; have NBz1_z2 := n5_; have NBz2_z1 := n6_; clear n0_ n1_ n2_ n3_ n4_ n5_ n6_; clear hb hbox hg) | ((with_reducible refine gate_dst (N := 5) rfl ?_); refine box_event ?hg (N := 5) ?hd (cs := #[.string a2]) (t := 9) ?hr ?_; (case hd => rfl); (case hg => rfl); (case hr => first | (go_simp; done) | (go_simp; rfl)); intro gbz3 hg w38 hbox hb; have n0_ := am (bkB (pk BKz1) hb); have n1_ := am (bkB (pk BKz2) hb); have n2_ := am (below_step (sC_ HB) hb); have n3_ := am (hbox); have n4_ := ge_ hg (sC_ HB); have n5_ := ge_ hg (sC_ HB); have n6_ := nl_ hg BKz1; have n7_ := ng_ hg BKz1; have n8_ := nl_ hg BKz2; have n9_ := ng_ hg BKz2; clear BKz1; clear BKz2; clear HB; have BKz1 := n0_; have BKz2 := n1_; have HB := n2_; have BKz3 := n3_; have GWz3 := n4_; have GEz3 := n5_; have NBz1_z3 := n6_; have NBz3_z1 := n7_; have NBz2_z3 := n8_; have NBz3_z2 := n9_; clear n0_ n1_ n2_ n3_ n4_ n5_ n6_ n7_ n8_ n9_; clear hb hbox hg; have hnb39 := NBz1_z2.out; have hnc39 := NBz2_z1.out; have hnb40 := NBz1_z3.out; have hnc40 := NBz3_z1.out; obtain ⟨hcz41_0, hcz41_1, hcz41_2, hcz41_3, hcz41_4⟩ := bc5 BKz1; obtain ⟨hfz41_0, hfz41_1, hfz41_2, hfz41_3, hfz41_4⟩ := bf5 BKz1) | ((with_reducible refine gate_callee (f := 37) rfl ?_); refine goesL_ (some 11) rfl rfl Try.func37 (by kernel_rfl) rfl #[.agg #[.string a0_0, .int .i64 a0_1, .slice A0_2 l0_2.length c0_2, .slice A0_3 l0_3.length c0_3, .bool a0_4]] rfl (by (try simp only [List.map_toArray, List.map_cons, List.map_nil]) <;> rfl) ?_; (with_reducible refine (ideal_Right.calls a0_0 a0_1 _ _ l0_2 _ _ l0_3 a0_4 false _ ?side1 ?side2 ?side3 ?side4 A4.out).mono ?_); (case side1 => repeat (first | exact (Kd.C_below HR0_2.out HB.out) | (with_reducible refine Kd.C_alloc ?_ _) | (with_reducible refine Kd.C_drewN ?_ _) | (with_reducible refine Kd.C_drew ?_))); (case side2 => exact HC0_2.out); (case side3 => repeat (first | exact (Kd.C_below HR0_3.out HB.out) | (with_reducible refine Kd.C_alloc ?_ _) | (with_reducible refine Kd.C_drewN ?_ _) | (with_reducible refine Kd.C_drew ?_))); (case side4 => exact HC0_3.out); rintro e w42 ⟨rfl, hb⟩; refine ⟨_, rfl, ?_⟩; have n0_ := am (bkB (pk BKz1) hb); have n1_ := am (bkB (pk BKz2) hb); have n2_ := am (bkB (pk BKz3) hb); have n3_ := am (below_step (sC_ HB) hb); clear BKz1; clear BKz2; clear BKz3; clear HB; have BKz1 := n0_; have BKz2 := n1_; have BKz3 := n2_; have HB := n3_; clear n0_ n1_ n2_ n3_; (try clear hi)))
  go_ret2
  exact ⟨by first | rfl | (simp <;> rfl) | (simp [*] <;> rfl), sC_ HB⟩
 subst c5
 have H1 : ((ideal_find_67.f l0_3 a1 a2).bind fun btz5 => (if btz5.2.2.2 = true then (some (btz5.2.1, 0)) else (some ((⟨#[]⟩ : ByteArray), 11)))) = some (r1, r2) := by rw [if_pos rfl] at H; exact H
 clear H
 have H := H1
 clear H1
 replace H := ob_ H
 obtain ⟨⟨tz5, tz6, tz7, tz8⟩, A60, H⟩ := H
 replace H : (if tz8 = true then (some (tz6, 0)) else (some ((⟨#[]⟩ : ByteArray), 11))) = some (r1, r2) := H
 have A6 := Aside0.mk A60
 clear A60
 by_cases c7 : tz8 = true
 ·subst c7
  have H1 : (some (tz6, 0)) = some (r1, r2) := by rw [if_pos rfl] at H; exact H
  clear H
  have H := H1
  clear H1
  simp only [Option.some.injEq, Prod.mk.injEq] at H
  obtain ⟨rfl, rfl⟩ := H
  go_enter Try.func43, Try.ntmps43
  go_wp2_with (first | ((with_reducible refine gate_dst (N := 3) rfl ?_); refine box_event ?hg (N := 3) ?hd (cs := #[.string a0_0, .int .i64 a0_1, .slice A0_2 l0_2.length c0_2, .slice A0_3 l0_3.length c0_3, .bool a0_4]) (t := 50) ?hr ?_; (case hd => rfl); (case hg => rfl); (case hr => first | (go_simp; done) | (go_simp; rfl)); intro gbz1 hg w8 hbox hb; have n0_ := am (below_step (pb HB) hb); have n1_ := am (hbox); have n2_ := ge_ hg (pb HB); have n3_ := ge_ hg (pb HB); clear HB; have HB := n0_; have BKz1 := n1_; have GWz1 := n2_; have GEz1 := n3_; clear n0_ n1_ n2_ n3_; clear hb hbox hg) | ((with_reducible refine gate_dst (N := 4) rfl ?_); refine box_event ?hg (N := 4) ?hd (cs := #[.string a1]) (t := 9) ?hr ?_; (case hd => rfl); (case hg => rfl); (case hr => first | (go_simp; done) | (go_simp; rfl)); intro gbz2 hg w9 hbox hb; have n0_ := am (bkB (pk BKz1) hb); have n1_ := am (below_step (sC_ HB) hb); have n2_ := am (hbox); have n3_ := ge_ hg (sC_ HB); have n4_ := ge_ hg (sC_ HB); have n5_ := nl_ hg BKz1; have n6_ := ng_ hg BKz1; clear BKz1; clear HB; have BKz1 := n0_; have HB := n1_; have BKz2 := n2_; have GWz2 := n3_; have GEz2 := n4_; have NBz1_z2 := n5_; have NBz2_z1 := n6_; clear n0_ n1_ n2_ n3_ n4_ n5_ n6_; clear hb hbox hg) | ((with_reducible refine gate_dst (N := 5) rfl ?_); refine box_event ?hg (N := 5) ?hd (cs := #[.string a2]) (t := 9) ?hr ?_; (case hd => rfl); (case hg => rfl); (case hr => first | (go_simp; done) | (go_simp; rfl)); intro gbz3 hg w10 hbox hb; have n0_ := am (bkB (pk BKz1) hb); have n1_ := am (bkB (pk BKz2) hb); have n2_ := am (below_step (sC_ HB) hb); have n3_ := am (hbox); have n4_ := ge_ hg (sC_ HB); have n5_ := ge_ hg (sC_ HB); have n6_ := nl_ hg BKz1; have n7_ := ng_ hg BKz1; have n8_ := nl_ hg BKz2; have n9_ := ng_ hg BKz2; clear BKz1; clear BKz2; clear HB; have BKz1 := n0_; have BKz2 := n1_; have HB := n2_; have BKz3 := n3_; have GWz3 := n4_; have GEz3 := n5_; have NBz1_z3 := n6_; have NBz3_z1 := n7_; have NBz2_z3 := n8_; have NBz3_z2 := n9_; clear n0_ n1_ n2_ n3_ n4_ n5_ n6_ n7_ n8_ n9_; clear hb hbox hg; have hnb11 := NBz1_z2.out; have hnc11 := NBz2_z1.out; have hnb12 := NBz1_z3.out; have hnc12 := NBz3_z1.out; obtain ⟨hcz13_0, hcz13_1, hcz13_2, hcz13_3, hcz13_4⟩ := bc5 BKz1; obtain ⟨hfz13_0, hfz13_1, hfz13_2, hfz13_3, hfz13_4⟩ := bf5 BKz1) | ((with_reducible refine gate_callee (f := 37) rfl ?_); refine goesL_ (some 11) rfl rfl Try.func37 (by kernel_rfl) rfl #[.agg #[.string a0_0, .int .i64 a0_1, .slice A0_2 l0_2.length c0_2, .slice A0_3 l0_3.length c0_3, .bool a0_4]] rfl (by (try simp only [List.map_toArray, List.map_cons, List.map_nil]) <;> rfl) ?_; (with_reducible refine (ideal_Right.calls a0_0 a0_1 _ _ l0_2 _ _ l0_3 a0_4 true _ ?side1 ?side2 ?side3 ?side4 A4.out).mono ?_); (case side1 => repeat (first | exact (Kd.C_below HR0_2.out HB.out) | (with_reducible refine Kd.C_alloc ?_ _) | (with_reducible refine Kd.C_drewN ?_ _) | (with_reducible refine Kd.C_drew ?_))); (case side2 => exact HC0_2.out); (case side3 => repeat (first | exact (Kd.C_below HR0_3.out HB.out) | (with_reducible refine Kd.C_alloc ?_ _) | (with_reducible refine Kd.C_drewN ?_ _) | (with_reducible refine Kd.C_drew ?_))); (case side4 => exact HC0_3.out); rintro e w14 ⟨rfl, hb⟩; refine ⟨_, rfl, ?_⟩; have n0_ := am (bkB (pk BKz1) hb); have n1_ := am (bkB (pk BKz2) hb); have n2_ := am (bkB (pk BKz3) hb); have n3_ := am (below_step (sC_ HB) hb); clear BKz1; clear BKz2; clear BKz3; clear HB; have BKz1 := n0_; have BKz2 := n1_; have BKz3 := n2_; have HB := n3_; clear n0_ n1_ n2_ n3_; obtain ⟨hcz15_0, hcz15_1, hcz15_2, hcz15_3, hcz15_4⟩ := bc5 BKz1; obtain ⟨hfz15_0, hfz15_1, hfz15_2, hfz15_3, hfz15_4⟩ := bf5 BKz1) | ((with_reducible refine gate_callee (f := 65) rfl ?_); refine goesL_ (some 17) rfl rfl Try.func65 (by kernel_rfl) rfl #[.slice A0_3 l0_3.length c0_3, .func (.func 67) #[] #[.pointer (some ⟨gbz2, 0, none⟩), .pointer (some ⟨gbz3, 0, none⟩)]] rfl (by (try simp only [List.map_toArray, List.map_cons, List.map_nil]) <;> rfl) ?_; (with_reducible refine (ideal_find_67.calls _ _ l0_3 a1 a2 tz5 tz6 tz7 true _ ?side1 ?side2 ?side3 ?side4 A6.out).mono ?_); (case side1 => repeat (first | exact (Kd.C_below HR0_3.out HB.out) | (with_reducible refine Kd.C_alloc ?_ _) | (with_reducible refine Kd.C_drewN ?_ _) | (with_reducible refine Kd.C_drew ?_))); (case side2 => exact HC0_3.out); (case side3 => exact by (with_reducible repeat (first | refine blk_drewN ?_ _ | refine bkD ?_ | refine bkA ?_ _)); exact BKz2.out); (case side4 => exact by (with_reducible repeat (first | refine blk_drewN ?_ _ | refine bkD ?_ | refine bkA ?_ _)); exact BKz3.out); rintro e w16 ⟨rfl, hb⟩; refine ⟨_, rfl, ?_⟩; have n0_ := am (bkB (pk BKz1) hb); have n1_ := am (bkB (pk BKz2) hb); have n2_ := am (bkB (pk BKz3) hb); have n3_ := am (below_step (sC_ HB) hb); clear BKz1; clear BKz2; clear BKz3; clear HB; have BKz1 := n0_; have BKz2 := n1_; have BKz3 := n2_; have HB := n3_; clear n0_ n1_ n2_ n3_; (try clear hi)) | ((with_reducible refine gate_dst (N := 8) rfl ?_); refine box_event ?hg (N := 8) ?hd (cs := #[.string (⟨#[]⟩ : ByteArray), .string (⟨#[]⟩ : ByteArray), .string (⟨#[]⟩ : ByteArray)]) (t := 74) ?hr ?_; (case hd => rfl); (case hg => rfl); (case hr => first | (go_simp; done) | (go_simp; rfl)); intro gbz9 hg w17 hbox hb; have n0_ := am (bkB (pk BKz1) hb); have n1_ := am (bkB (pk BKz2) hb); have n2_ := am (bkB (pk BKz3) hb); have n3_ := am (below_step (sC_ HB) hb); have n4_ := am (hbox); have n5_ := ge_ hg (sC_ HB); have n6_ := ge_ hg (sC_ HB); have n7_ := nl_ hg BKz1; have n8_ := ng_ hg BKz1; have n9_ := nl_ hg BKz2; have n10_ := ng_ hg BKz2; have n11_ := nl_ hg BKz3; have n12_ := ng_ hg BKz3; clear BKz1; clear BKz2; clear BKz3; clear HB; have BKz1 := n0_; have BKz2 := n1_; have BKz3 := n2_; have HB := n3_; have BKz9 := n4_; have GWz9 := n5_; have GEz9 := n6_; have NBz1_z9 := n7_; have NBz9_z1 := n8_; have NBz2_z9 := n9_; have NBz9_z2 := n10_; have NBz3_z9 := n11_; have NBz9_z3 := n12_; clear n0_ n1_ n2_ n3_ n4_ n5_ n6_ n7_ n8_ n9_ n10_ n11_ n12_; clear hb hbox hg; have hnb18 := NBz9_z1.out; have hnc18 := NBz1_z9.out; have hnb19 := NBz9_z2.out; have hnc19 := NBz2_z9.out; have hnb20 := NBz9_z3.out; have hnc20 := NBz3_z9.out; obtain ⟨hcz21_0, hcz21_1, hcz21_2⟩ := bc3 BKz9; obtain ⟨hfz21_0, hfz21_1, hfz21_2⟩ := bf3 BKz9))
  go_ret2
  exact ⟨by first | rfl | (simp <;> rfl) | (simp [*] <;> rfl), sC_ HB⟩
 replace c7 := Bool.eq_false_iff.mpr c7
 subst c7
 have H1 : (some ((⟨#[]⟩ : ByteArray), 11)) = some (r1, r2) := by rw [if_neg (show ¬ (false = true) by decide)] at H; exact H
 clear H
 have H := H1
 clear H1
 simp only [Option.some.injEq, Prod.mk.injEq] at H
 obtain ⟨rfl, rfl⟩ := H
 go_enter Try.func43, Try.ntmps43
 go_wp2_with (first | ((with_reducible refine gate_dst (N := 3) rfl ?_); refine box_event ?hg (N := 3) ?hd (cs := #[.string a0_0, .int .i64 a0_1, .slice A0_2 l0_2.length c0_2, .slice A0_3 l0_3.length c0_3, .bool a0_4]) (t := 50) ?hr ?_; (case hd => rfl); (case hg => rfl); (case hr => first | (go_simp; done) | (go_simp; rfl)); intro gbz1 hg w22 hbox hb; have n0_ := am (below_step (pb HB) hb); have n1_ := am (hbox); have n2_ := ge_ hg (pb HB); have n3_ := ge_ hg (pb HB); clear HB; have HB := n0_; have BKz1 := n1_; have GWz1 := n2_; have GEz1 := n3_; clear n0_ n1_ n2_ n3_; clear hb hbox hg) | ((with_reducible refine gate_dst (N := 4) rfl ?_); refine box_event ?hg (N := 4) ?hd (cs := #[.string a1]) (t := 9) ?hr ?_; (case hd => rfl); (case hg => rfl); (case hr => first | (go_simp; done) | (go_simp; rfl)); intro gbz2 hg w23 hbox hb; have n0_ := am (bkB (pk BKz1) hb); have n1_ := am (below_step (sC_ HB) hb); have n2_ := am (hbox); have n3_ := ge_ hg (sC_ HB); have n4_ := ge_ hg (sC_ HB); have n5_ := nl_ hg BKz1; have n6_ := ng_ hg BKz1; clear BKz1; clear HB; have BKz1 := n0_; have HB := n1_; have BKz2 := n2_; have GWz2 := n3_; have GEz2 := n4_; have NBz1_z2 := n5_; have NBz2_z1 := n6_; clear n0_ n1_ n2_ n3_ n4_ n5_ n6_; clear hb hbox hg) | ((with_reducible refine gate_dst (N := 5) rfl ?_); refine box_event ?hg (N := 5) ?hd (cs := #[.string a2]) (t := 9) ?hr ?_; (case hd => rfl); (case hg => rfl); (case hr => first | (go_simp; done) | (go_simp; rfl)); intro gbz3 hg w24 hbox hb; have n0_ := am (bkB (pk BKz1) hb); have n1_ := am (bkB (pk BKz2) hb); have n2_ := am (below_step (sC_ HB) hb); have n3_ := am (hbox); have n4_ := ge_ hg (sC_ HB); have n5_ := ge_ hg (sC_ HB); have n6_ := nl_ hg BKz1; have n7_ := ng_ hg BKz1; have n8_ := nl_ hg BKz2; have n9_ := ng_ hg BKz2; clear BKz1; clear BKz2; clear HB; have BKz1 := n0_; have BKz2 := n1_; have HB := n2_; have BKz3 := n3_; have GWz3 := n4_; have GEz3 := n5_; have NBz1_z3 := n6_; have NBz3_z1 := n7_; have NBz2_z3 := n8_; have NBz3_z2 := n9_; clear n0_ n1_ n2_ n3_ n4_ n5_ n6_ n7_ n8_ n9_; clear hb hbox hg; have hnb25 := NBz1_z2.out; have hnc25 := NBz2_z1.out; have hnb26 := NBz1_z3.out; have hnc26 := NBz3_z1.out; obtain ⟨hcz27_0, hcz27_1, hcz27_2, hcz27_3, hcz27_4⟩ := bc5 BKz1; obtain ⟨hfz27_0, hfz27_1, hfz27_2, hfz27_3, hfz27_4⟩ := bf5 BKz1) | ((with_reducible refine gate_callee (f := 37) rfl ?_); refine goesL_ (some 11) rfl rfl Try.func37 (by kernel_rfl) rfl #[.agg #[.string a0_0, .int .i64 a0_1, .slice A0_2 l0_2.length c0_2, .slice A0_3 l0_3.length c0_3, .bool a0_4]] rfl (by (try simp only [List.map_toArray, List.map_cons, List.map_nil]) <;> rfl) ?_; (with_reducible refine (ideal_Right.calls a0_0 a0_1 _ _ l0_2 _ _ l0_3 a0_4 true _ ?side1 ?side2 ?side3 ?side4 A4.out).mono ?_); (case side1 => repeat (first | exact (Kd.C_below HR0_2.out HB.out) | (with_reducible refine Kd.C_alloc ?_ _) | (with_reducible refine Kd.C_drewN ?_ _) | (with_reducible refine Kd.C_drew ?_))); (case side2 => exact HC0_2.out); (case side3 => repeat (first | exact (Kd.C_below HR0_3.out HB.out) | (with_reducible refine Kd.C_alloc ?_ _) | (with_reducible refine Kd.C_drewN ?_ _) | (with_reducible refine Kd.C_drew ?_))); (case side4 => exact HC0_3.out); rintro e w28 ⟨rfl, hb⟩; refine ⟨_, rfl, ?_⟩; have n0_ := am (bkB (pk BKz1) hb); have n1_ := am (bkB (pk BKz2) hb); have n2_ := am (bkB (pk BKz3) hb); have n3_ := am (below_step (sC_ HB) hb); clear BKz1; clear BKz2; clear BKz3; clear HB; have BKz1 := n0_; have BKz2 := n1_; have BKz3 := n2_; have HB := n3_; clear n0_ n1_ n2_ n3_; obtain ⟨hcz29_0, hcz29_1, hcz29_2, hcz29_3, hcz29_4⟩ := bc5 BKz1; obtain ⟨hfz29_0, hfz29_1, hfz29_2, hfz29_3, hfz29_4⟩ := bf5 BKz1) | ((with_reducible refine gate_callee (f := 65) rfl ?_); refine goesL_ (some 17) rfl rfl Try.func65 (by kernel_rfl) rfl #[.slice A0_3 l0_3.length c0_3, .func (.func 67) #[] #[.pointer (some ⟨gbz2, 0, none⟩), .pointer (some ⟨gbz3, 0, none⟩)]] rfl (by (try simp only [List.map_toArray, List.map_cons, List.map_nil]) <;> rfl) ?_; (with_reducible refine (ideal_find_67.calls _ _ l0_3 a1 a2 tz5 tz6 tz7 false _ ?side1 ?side2 ?side3 ?side4 A6.out).mono ?_); (case side1 => repeat (first | exact (Kd.C_below HR0_3.out HB.out) | (with_reducible refine Kd.C_alloc ?_ _) | (with_reducible refine Kd.C_drewN ?_ _) | (with_reducible refine Kd.C_drew ?_))); (case side2 => exact HC0_3.out); (case side3 => exact by (with_reducible repeat (first | refine blk_drewN ?_ _ | refine bkD ?_ | refine bkA ?_ _)); exact BKz2.out); (case side4 => exact by (with_reducible repeat (first | refine blk_drewN ?_ _ | refine bkD ?_ | refine bkA ?_ _)); exact BKz3.out); rintro e w30 ⟨rfl, hb⟩; refine ⟨_, rfl, ?_⟩; have n0_ := am (bkB (pk BKz1) hb); have n1_ := am (bkB (pk BKz2) hb); have n2_ := am (bkB (pk BKz3) hb); have n3_ := am (below_step (sC_ HB) hb); clear BKz1; clear BKz2; clear BKz3; clear HB; have BKz1 := n0_; have BKz2 := n1_; have BKz3 := n2_; have HB := n3_; clear n0_ n1_ n2_ n3_; (try clear hi)) | ((with_reducible refine gate_dst (N := 8) rfl ?_); refine box_event ?hg (N := 8) ?hd (cs := #[.string (⟨#[]⟩ : ByteArray), .string (⟨#[]⟩ : ByteArray), .string (⟨#[]⟩ : ByteArray)]) (t := 74) ?hr ?_; (case hd => rfl); (case hg => rfl); (case hr => first | (go_simp; done) | (go_simp; rfl)); intro gbz9 hg w31 hbox hb; have n0_ := am (bkB (pk BKz1) hb); have n1_ := am (bkB (pk BKz2) hb); have n2_ := am (bkB (pk BKz3) hb); have n3_ := am (below_step (sC_ HB) hb); have n4_ := am (hbox); have n5_ := ge_ hg (sC_ HB); have n6_ := ge_ hg (sC_ HB); have n7_ := nl_ hg BKz1; have n8_ := ng_ hg BKz1; have n9_ := nl_ hg BKz2; have n10_ := ng_ hg BKz2; have n11_ := nl_ hg BKz3; have n12_ := ng_ hg BKz3; clear BKz1; clear BKz2; clear BKz3; clear HB; have BKz1 := n0_; have BKz2 := n1_; have BKz3 := n2_; have HB := n3_; have BKz9 := n4_; have GWz9 := n5_; have GEz9 := n6_; have NBz1_z9 := n7_; have NBz9_z1 := n8_; have NBz2_z9 := n9_; have NBz9_z2 := n10_; have NBz3_z9 := n11_; have NBz9_z3 := n12_; clear n0_ n1_ n2_ n3_ n4_ n5_ n6_ n7_ n8_ n9_ n10_ n11_ n12_; clear hb hbox hg; have hnb32 := NBz9_z1.out; have hnc32 := NBz1_z9.out; have hnb33 := NBz9_z2.out; have hnc33 := NBz2_z9.out; have hnb34 := NBz9_z3.out; have hnc34 := NBz3_z9.out; obtain ⟨hcz35_0, hcz35_1, hcz35_2⟩ := bc3 BKz9; obtain ⟨hfz35_0, hfz35_1, hfz35_2⟩ := bf3 BKz9))
 go_ret2
 exact ⟨by first | rfl | (simp <;> rfl) | (simp [*] <;> rfl), sC_ HB⟩
end Go.Proofs.Ytmkncddbecmlpaa.Pr
end
section
namespace Go.Proofs.Ytmkncddbecmlpaa.Pr
open Go.Proofs.Ytmkncddbecmlpaa.Sq Go.RowKit Go.Proofs.YtmkncddbecmlpaaW.PrintWords Go.Proofs.YtmkncddbecmlpaaW.PrintLast Go.Proofs.YtmkncddbecmlpaaW.PrintMore
attribute [local go_sem] max2_int min2_int max_two min_two max_three min_three max_four min_four
set_option linter.unusedVariables false
set_option linter.unusedSimpArgs false
def u8_awake.f (k : Nat)  : Option (Bool) := (ideal_New.f (⟨#[97, 98, 99, 100, 101, 102, 103, 104, 105, 106, 107, 108, 109, 110, 111, 112]⟩ : ByteArray) 0).bind fun btz1 => ((ideal_Label.f k btz1.1 btz1.2.1 btz1.2.2.1 btz1.2.2.2.1 btz1.2.2.2.2.1 (⟨#[120]⟩ : ByteArray)).bind fun btz12 => ((ideal_Label.f k btz12.2.1 btz12.2.2.1 btz12.2.2.2.1 btz12.2.2.2.2.1 btz12.2.2.2.2.2.1 (⟨#[120]⟩ : ByteArray)).bind fun btz24 => ((ideal_Label.f k btz12.2.1 btz12.2.2.1 btz12.2.2.2.1 btz12.2.2.2.2.1 btz12.2.2.2.2.2.1 (⟨#[121]⟩ : ByteArray)).bind fun btz36 => ((ideal_Open.f btz1.1 btz1.2.1 btz1.2.2.1 btz1.2.2.2.1 btz1.2.2.2.2.1 (⟨#[120]⟩ : ByteArray) (⟨#[121]⟩ : ByteArray)).bind fun btz48 => ((ideal_New.f (⟨#[]⟩ : ByteArray) 1).bind fun btz50 => (if btz1.2.2.2.2.2 = 0 then (if btz12.1.toList = ([97, 98, 99, 100, 101, 102, 103, 104, 105, 106, 107, 108, 109, 110, 111, 112] : List UInt8) then (if btz12.2.2.2.2.2.2 = 0 then (if btz24.1.toList = btz12.1.toList then (if btz24.2.2.2.2.2.2 = 0 then ((r8_Same.f k btz12.2.1 btz12.2.2.1 btz12.2.2.2.1 btz12.2.2.2.2.1 btz12.2.2.2.2.2.1 btz24.2.1 btz24.2.2.1 btz24.2.2.2.1 btz24.2.2.2.2.1 btz24.2.2.2.2.2.1).bind fun tz61 => (if tz61 = true then (if btz36.2.2.2.2.2.2 = 12 then (if btz48.2 = 11 then (if btz50.2.2.2.2.2 = 1 then ((ideal_Right.f btz12.2.1 btz12.2.2.1 btz12.2.2.2.1 btz12.2.2.2.2.1 btz12.2.2.2.2.2.1).bind fun tz62 => (some tz62)) else (none)) else (none)) else (none)) else (none))) else (none)) else (none)) else (none)) else (none)) else (none)))))))
set_option maxHeartbeats 8000000 in
set_option maxRecDepth 100000 in
theorem u8_awake.calls (k : Nat)  (r : Bool) (w : World) (h : u8_awake.f k  = some r) :
  Calls Try.prog 28 #[] w fun e w' => e = .returned (.bool r) ∧ Below w.heap.size w w' := by
 have hu23 := Try.underlying23
 have hu50 := Try.underlying50
 have HB := am (Below.refl w.heap.size w)
 have H : ((ideal_New.f (⟨#[97, 98, 99, 100, 101, 102, 103, 104, 105, 106, 107, 108, 109, 110, 111, 112]⟩ : ByteArray) 0).bind fun btz1 => ((ideal_Label.f k btz1.1 btz1.2.1 btz1.2.2.1 btz1.2.2.2.1 btz1.2.2.2.2.1 (⟨#[120]⟩ : ByteArray)).bind fun btz12 => ((ideal_Label.f k btz12.2.1 btz12.2.2.1 btz12.2.2.2.1 btz12.2.2.2.2.1 btz12.2.2.2.2.2.1 (⟨#[120]⟩ : ByteArray)).bind fun btz24 => ((ideal_Label.f k btz12.2.1 btz12.2.2.1 btz12.2.2.2.1 btz12.2.2.2.2.1 btz12.2.2.2.2.2.1 (⟨#[121]⟩ : ByteArray)).bind fun btz36 => ((ideal_Open.f btz1.1 btz1.2.1 btz1.2.2.1 btz1.2.2.2.1 btz1.2.2.2.2.1 (⟨#[120]⟩ : ByteArray) (⟨#[121]⟩ : ByteArray)).bind fun btz48 => ((ideal_New.f (⟨#[]⟩ : ByteArray) 1).bind fun btz50 => (if btz1.2.2.2.2.2 = 0 then (if btz12.1.toList = ([97, 98, 99, 100, 101, 102, 103, 104, 105, 106, 107, 108, 109, 110, 111, 112] : List UInt8) then (if btz12.2.2.2.2.2.2 = 0 then (if btz24.1.toList = btz12.1.toList then (if btz24.2.2.2.2.2.2 = 0 then ((r8_Same.f k btz12.2.1 btz12.2.2.1 btz12.2.2.2.1 btz12.2.2.2.2.1 btz12.2.2.2.2.2.1 btz24.2.1 btz24.2.2.1 btz24.2.2.2.1 btz24.2.2.2.2.1 btz24.2.2.2.2.2.1).bind fun tz61 => (if tz61 = true then (if btz36.2.2.2.2.2.2 = 12 then (if btz48.2 = 11 then (if btz50.2.2.2.2.2 = 1 then ((ideal_Right.f btz12.2.1 btz12.2.2.1 btz12.2.2.2.1 btz12.2.2.2.2.1 btz12.2.2.2.2.2.1).bind fun tz62 => (some tz62)) else (none)) else (none)) else (none)) else (none))) else (none)) else (none)) else (none)) else (none)) else (none)))))))) = some r := h
 clear h
 replace H := ob_ H
 obtain ⟨⟨tz1, tz2, tz3, tz6, tz9, tz10⟩, A10, H⟩ := H
 replace H : ((ideal_Label.f k tz1 tz2 tz3 tz6 tz9 (⟨#[120]⟩ : ByteArray)).bind fun btz12 => ((ideal_Label.f k btz12.2.1 btz12.2.2.1 btz12.2.2.2.1 btz12.2.2.2.2.1 btz12.2.2.2.2.2.1 (⟨#[120]⟩ : ByteArray)).bind fun btz24 => ((ideal_Label.f k btz12.2.1 btz12.2.2.1 btz12.2.2.2.1 btz12.2.2.2.2.1 btz12.2.2.2.2.2.1 (⟨#[121]⟩ : ByteArray)).bind fun btz36 => ((ideal_Open.f tz1 tz2 tz3 tz6 tz9 (⟨#[120]⟩ : ByteArray) (⟨#[121]⟩ : ByteArray)).bind fun btz48 => ((ideal_New.f (⟨#[]⟩ : ByteArray) 1).bind fun btz50 => (if tz10 = 0 then (if btz12.1.toList = ([97, 98, 99, 100, 101, 102, 103, 104, 105, 106, 107, 108, 109, 110, 111, 112] : List UInt8) then (if btz12.2.2.2.2.2.2 = 0 then (if btz24.1.toList = btz12.1.toList then (if btz24.2.2.2.2.2.2 = 0 then ((r8_Same.f k btz12.2.1 btz12.2.2.1 btz12.2.2.2.1 btz12.2.2.2.2.1 btz12.2.2.2.2.2.1 btz24.2.1 btz24.2.2.1 btz24.2.2.2.1 btz24.2.2.2.2.1 btz24.2.2.2.2.2.1).bind fun tz61 => (if tz61 = true then (if btz36.2.2.2.2.2.2 = 12 then (if btz48.2 = 11 then (if btz50.2.2.2.2.2 = 1 then ((ideal_Right.f btz12.2.1 btz12.2.2.1 btz12.2.2.2.1 btz12.2.2.2.2.1 btz12.2.2.2.2.2.1).bind fun tz62 => (some tz62)) else (none)) else (none)) else (none)) else (none))) else (none)) else (none)) else (none)) else (none)) else (none))))))) = some r := H
 have A1 := Aside0.mk A10
 clear A10
 replace H := ob_ H
 obtain ⟨⟨tz12, tz13, tz14, tz15, tz18, tz21, tz22⟩, A20, H⟩ := H
 replace H : ((ideal_Label.f k tz13 tz14 tz15 tz18 tz21 (⟨#[120]⟩ : ByteArray)).bind fun btz24 => ((ideal_Label.f k tz13 tz14 tz15 tz18 tz21 (⟨#[121]⟩ : ByteArray)).bind fun btz36 => ((ideal_Open.f tz1 tz2 tz3 tz6 tz9 (⟨#[120]⟩ : ByteArray) (⟨#[121]⟩ : ByteArray)).bind fun btz48 => ((ideal_New.f (⟨#[]⟩ : ByteArray) 1).bind fun btz50 => (if tz10 = 0 then (if tz12.toList = ([97, 98, 99, 100, 101, 102, 103, 104, 105, 106, 107, 108, 109, 110, 111, 112] : List UInt8) then (if tz22 = 0 then (if btz24.1.toList = tz12.toList then (if btz24.2.2.2.2.2.2 = 0 then ((r8_Same.f k tz13 tz14 tz15 tz18 tz21 btz24.2.1 btz24.2.2.1 btz24.2.2.2.1 btz24.2.2.2.2.1 btz24.2.2.2.2.2.1).bind fun tz61 => (if tz61 = true then (if btz36.2.2.2.2.2.2 = 12 then (if btz48.2 = 11 then (if btz50.2.2.2.2.2 = 1 then ((ideal_Right.f tz13 tz14 tz15 tz18 tz21).bind fun tz62 => (some tz62)) else (none)) else (none)) else (none)) else (none))) else (none)) else (none)) else (none)) else (none)) else (none)))))) = some r := H
 have A2 := Aside0.mk A20
 clear A20
 replace H := ob_ H
 obtain ⟨⟨tz24, tz25, tz26, tz27, tz30, tz33, tz34⟩, A30, H⟩ := H
 replace H : ((ideal_Label.f k tz13 tz14 tz15 tz18 tz21 (⟨#[121]⟩ : ByteArray)).bind fun btz36 => ((ideal_Open.f tz1 tz2 tz3 tz6 tz9 (⟨#[120]⟩ : ByteArray) (⟨#[121]⟩ : ByteArray)).bind fun btz48 => ((ideal_New.f (⟨#[]⟩ : ByteArray) 1).bind fun btz50 => (if tz10 = 0 then (if tz12.toList = ([97, 98, 99, 100, 101, 102, 103, 104, 105, 106, 107, 108, 109, 110, 111, 112] : List UInt8) then (if tz22 = 0 then (if tz24.toList = tz12.toList then (if tz34 = 0 then ((r8_Same.f k tz13 tz14 tz15 tz18 tz21 tz25 tz26 tz27 tz30 tz33).bind fun tz61 => (if tz61 = true then (if btz36.2.2.2.2.2.2 = 12 then (if btz48.2 = 11 then (if btz50.2.2.2.2.2 = 1 then ((ideal_Right.f tz13 tz14 tz15 tz18 tz21).bind fun tz62 => (some tz62)) else (none)) else (none)) else (none)) else (none))) else (none)) else (none)) else (none)) else (none)) else (none))))) = some r := H
 have A3 := Aside0.mk A30
 clear A30
 replace H := ob_ H
 obtain ⟨⟨tz36, tz37, tz38, tz39, tz42, tz45, tz46⟩, A40, H⟩ := H
 replace H : ((ideal_Open.f tz1 tz2 tz3 tz6 tz9 (⟨#[120]⟩ : ByteArray) (⟨#[121]⟩ : ByteArray)).bind fun btz48 => ((ideal_New.f (⟨#[]⟩ : ByteArray) 1).bind fun btz50 => (if tz10 = 0 then (if tz12.toList = ([97, 98, 99, 100, 101, 102, 103, 104, 105, 106, 107, 108, 109, 110, 111, 112] : List UInt8) then (if tz22 = 0 then (if tz24.toList = tz12.toList then (if tz34 = 0 then ((r8_Same.f k tz13 tz14 tz15 tz18 tz21 tz25 tz26 tz27 tz30 tz33).bind fun tz61 => (if tz61 = true then (if tz46 = 12 then (if btz48.2 = 11 then (if btz50.2.2.2.2.2 = 1 then ((ideal_Right.f tz13 tz14 tz15 tz18 tz21).bind fun tz62 => (some tz62)) else (none)) else (none)) else (none)) else (none))) else (none)) else (none)) else (none)) else (none)) else (none)))) = some r := H
 have A4 := Aside0.mk A40
 clear A40
 replace H := ob_ H
 obtain ⟨⟨tz48, tz49⟩, A50, H⟩ := H
 replace H : ((ideal_New.f (⟨#[]⟩ : ByteArray) 1).bind fun btz50 => (if tz10 = 0 then (if tz12.toList = ([97, 98, 99, 100, 101, 102, 103, 104, 105, 106, 107, 108, 109, 110, 111, 112] : List UInt8) then (if tz22 = 0 then (if tz24.toList = tz12.toList then (if tz34 = 0 then ((r8_Same.f k tz13 tz14 tz15 tz18 tz21 tz25 tz26 tz27 tz30 tz33).bind fun tz61 => (if tz61 = true then (if tz46 = 12 then (if tz49 = 11 then (if btz50.2.2.2.2.2 = 1 then ((ideal_Right.f tz13 tz14 tz15 tz18 tz21).bind fun tz62 => (some tz62)) else (none)) else (none)) else (none)) else (none))) else (none)) else (none)) else (none)) else (none)) else (none))) = some r := H
 have A5 := Aside0.mk A50
 clear A50
 replace H := ob_ H
 obtain ⟨⟨tz50, tz51, tz52, tz55, tz58, tz59⟩, A60, H⟩ := H
 replace H : (if tz10 = 0 then (if tz12.toList = ([97, 98, 99, 100, 101, 102, 103, 104, 105, 106, 107, 108, 109, 110, 111, 112] : List UInt8) then (if tz22 = 0 then (if tz24.toList = tz12.toList then (if tz34 = 0 then ((r8_Same.f k tz13 tz14 tz15 tz18 tz21 tz25 tz26 tz27 tz30 tz33).bind fun tz61 => (if tz61 = true then (if tz46 = 12 then (if tz49 = 11 then (if tz59 = 1 then ((ideal_Right.f tz13 tz14 tz15 tz18 tz21).bind fun tz62 => (some tz62)) else (none)) else (none)) else (none)) else (none))) else (none)) else (none)) else (none)) else (none)) else (none)) = some r := H
 have A6 := Aside0.mk A60
 clear A60
 by_cases c7 : tz10 = 0
 rotate_left
 ·rw [if_neg c7] at H
  exact absurd H (by simp)
 rw [if_pos c7] at H
 have c7b0 : (tz10 == 0) = true := beq_iff_eq.mpr c7
 have c7b1 : (tz10 != 0) = false := bne_eq_false_iff_eq.mpr c7
 clear c7
 by_cases c8 : tz12.toList = ([97, 98, 99, 100, 101, 102, 103, 104, 105, 106, 107, 108, 109, 110, 111, 112] : List UInt8)
 rotate_left
 ·rw [if_neg c8] at H
  exact absurd H (by simp)
 rw [if_pos c8] at H
 have c8b0 : (tz12.toList == ([97, 98, 99, 100, 101, 102, 103, 104, 105, 106, 107, 108, 109, 110, 111, 112] : List UInt8)) = true := beq_iff_eq.mpr c8
 have c8b1 : (tz12.toList != ([97, 98, 99, 100, 101, 102, 103, 104, 105, 106, 107, 108, 109, 110, 111, 112] : List UInt8)) = false := bne_eq_false_iff_eq.mpr c8
 clear c8
 by_cases c9 : tz22 = 0
 rotate_left
 ·rw [if_neg c9] at H
  exact absurd H (by simp)
 rw [if_pos c9] at H
 have c9b0 : (tz22 == 0) = true := beq_iff_eq.mpr c9
 have c9b1 : (tz22 != 0) = false := bne_eq_false_iff_eq.mpr c9
 clear c9
 by_cases c10 : tz24.toList = tz12.toList
 rotate_left
 ·rw [if_neg c10] at H
  exact absurd H (by simp)
 rw [if_pos c10] at H
 have c10b0 : (tz24.toList == tz12.toList) = true := beq_iff_eq.mpr c10
 have c10b1 : (tz24.toList != tz12.toList) = false := bne_eq_false_iff_eq.mpr c10
 clear c10
 by_cases c11 : tz34 = 0
 rotate_left
 ·rw [if_neg c11] at H
  exact absurd H (by simp)
 rw [if_pos c11] at H
 have c11b0 : (tz34 == 0) = true := beq_iff_eq.mpr c11
 have c11b1 : (tz34 != 0) = false := bne_eq_false_iff_eq.mpr c11
 clear c11
 replace H := ob_ H
 obtain ⟨tz61, A120, H⟩ := H
 replace H : (if tz61 = true then (if tz46 = 12 then (if tz49 = 11 then (if tz59 = 1 then ((ideal_Right.f tz13 tz14 tz15 tz18 tz21).bind fun tz62 => (some tz62)) else (none)) else (none)) else (none)) else (none)) = some r := H
 have A12 := Aside0.mk A120
 clear A120
 by_cases c13 : tz61 = true
 rotate_left
 ·replace c13 := Bool.eq_false_iff.mpr c13
  subst c13
  have H1 : (none) = some r := by rw [if_neg (show ¬ (false = true) by decide)] at H; exact H
  clear H
  have H := H1
  clear H1
  exact absurd H (by simp)
 subst c13
 have H1 : (if tz46 = 12 then (if tz49 = 11 then (if tz59 = 1 then ((ideal_Right.f tz13 tz14 tz15 tz18 tz21).bind fun tz62 => (some tz62)) else (none)) else (none)) else (none)) = some r := by rw [if_pos rfl] at H; exact H
 clear H
 have H := H1
 clear H1
 by_cases c14 : tz46 = 12
 rotate_left
 ·rw [if_neg c14] at H
  exact absurd H (by simp)
 rw [if_pos c14] at H
 have c14b0 : (tz46 == 12) = true := beq_iff_eq.mpr c14
 have c14b1 : (tz46 != 12) = false := bne_eq_false_iff_eq.mpr c14
 clear c14
 by_cases c15 : tz49 = 11
 rotate_left
 ·rw [if_neg c15] at H
  exact absurd H (by simp)
 rw [if_pos c15] at H
 have c15b0 : (tz49 == 11) = true := beq_iff_eq.mpr c15
 have c15b1 : (tz49 != 11) = false := bne_eq_false_iff_eq.mpr c15
 clear c15
 by_cases c16 : tz59 = 1
 rotate_left
 ·rw [if_neg c16] at H
  exact absurd H (by simp)
 rw [if_pos c16] at H
 have c16b0 : (tz59 == 1) = true := beq_iff_eq.mpr c16
 have c16b1 : (tz59 != 1) = false := bne_eq_false_iff_eq.mpr c16
 clear c16
 replace H := ob_ H
 obtain ⟨tz62, A170, H⟩ := H
 replace H : (some tz62) = some r := H
 have A17 := Aside0.mk A170
 clear A170
 obtain rfl := Option.some.inj H
 go_enter Try.func28, Try.ntmps28
 go_wp2_with (first | ((with_reducible refine gate_callee (f := 30) rfl ?_); refine goesL_ (some 18) rfl rfl Try.func30 (by kernel_rfl) rfl #[.agg #[.string (⟨#[97, 98, 99, 100, 101, 102, 103, 104, 105, 106, 107, 108, 109, 110, 111, 112]⟩ : ByteArray), .int .i64 0]] rfl (by (try simp only [List.map_toArray, List.map_cons, List.map_nil]) <;> rfl) ?_; (with_reducible refine (ideal_New.calls (⟨#[97, 98, 99, 100, 101, 102, 103, 104, 105, 106, 107, 108, 109, 110, 111, 112]⟩ : ByteArray) 0 tz1 tz2 tz3 tz6 tz9 tz10 _ A1.out).mono ?_); rintro e w18 ⟨vz4, vz7, rfl, ho0, ho1, hb⟩; refine ⟨_, rfl, ?_⟩; have n0_ := am (Kd.R_lower ho0 (below_size (pb HB))); have n1_ := am (Kd.R_lower ho1 (below_size (pb HB))); have n2_ := am (below_step (pb HB) hb); clear HB; have HOz5 := n0_; have HOz8 := n1_; have HB := n2_; clear n0_ n1_ n2_; (try clear ho1)) | ((with_reducible refine gate_dst (N := 1) rfl ?_); refine box_event ?hg (N := 1) ?hd (cs := #[.string (⟨#[]⟩ : ByteArray), .int .i64 0, .slice none 0 0, .slice none 0 0, .bool false]) (t := 50) ?hr ?_; (case hd => rfl); (case hg => rfl); (case hr => first | (go_simp; done) | (go_simp; rfl)); intro gbz11 hg w19 hbox hb; have n0_ := am (Kd.R_below (pr HOz5) hb); have n1_ := am (Kd.R_below (pr HOz8) hb); have n2_ := am (below_step (pb HB) hb); have n3_ := am (hbox); have n4_ := ge_ hg (pb HB); have n5_ := ge_ hg (pb HB); clear HOz5; clear HOz8; clear HB; have HOz5 := n0_; have HOz8 := n1_; have HB := n2_; have BKz11 := n3_; have GWz11 := n4_; have GEz11 := n5_; clear n0_ n1_ n2_ n3_ n4_ n5_; clear hb hbox hg; obtain ⟨hcz20_0, hcz20_1, hcz20_2, hcz20_3, hcz20_4⟩ := bc5 BKz11; obtain ⟨hfz20_0, hfz20_1, hfz20_2, hfz20_3, hfz20_4⟩ := bf5 BKz11; obtain ⟨Ao21, co21, eo21⟩ := Kd.R_slice HOz5.out; subst eo21; obtain ⟨Ao22, co22, eo22⟩ := Kd.R_slice HOz8.out; subst eo22) | ((with_reducible refine gate_callee (f := 35) rfl ?_); refine goesL_ (some 23) rfl rfl Try.func35 (by kernel_rfl) rfl #[.agg #[.string tz1, .int .i64 tz2, .slice Ao21 tz3.length co21, .slice Ao22 tz6.length co22, .bool tz9], .string (⟨#[120]⟩ : ByteArray)] rfl (by (try simp only [List.map_toArray, List.map_cons, List.map_nil]) <;> rfl) ?_; (with_reducible refine (ideal_Label.calls k tz1 tz2 _ _ tz3 _ _ tz6 tz9 (⟨#[120]⟩ : ByteArray) tz12 tz13 tz14 tz15 tz18 tz21 tz22 _ ?side1 ?side2 ?side3 ?side4 A2.out).mono ?_); (case side1 => refine (Kd.R_reads' (e := 72) (base := w.heap.size) (ok := fun k_ => True) (n := tz3.length) (c := co21) ?_).2.2; exact (by (with_reducible repeat first | apply ra | apply rn | apply rd); exact (rs5 HOz5 BKz11 (by decide)))); (case side2 => exact (Kd.R_reads' HOz5.out).2.1); (case side3 => refine (Kd.R_reads' (e := 74) (base := w.heap.size) (ok := fun k_ => True) (n := tz6.length) (c := co22) ?_).2.2; exact (by (with_reducible repeat first | apply ra | apply rn | apply rd); exact (rs5 HOz8 BKz11 (by decide)))); (case side4 => exact (Kd.R_reads' HOz8.out).2.1); rintro e w23 ⟨vz16, vz19, rfl, ho0, ho1, hb⟩; refine ⟨_, rfl, ?_⟩; have n0_ := am (Kd.R_elder' (by (with_reducible repeat first | apply ra | apply rn | apply rd); exact (rs5 HOz5 BKz11 (by decide))) (Kd.R_base ho0) hb); have n1_ := am (Kd.R_elder' (by (with_reducible repeat first | apply ra | apply rn | apply rd); exact (rs5 HOz8 BKz11 (by decide))) (Kd.R_base ho1) hb); have n2_ := am (Kd.R_lower (Kd.R_new' ho0 (Kd.R_lt (by (with_reducible repeat first | apply ra | apply rn | apply rd); exact (rs5 HOz5 BKz11 (by decide))))) (below_size (sC_ HB))); have n3_ := am (Kd.R_lower (Kd.R_new' ho1 (Kd.R_lt (by (with_reducible repeat first | apply ra | apply rn | apply rd); exact (rs5 HOz8 BKz11 (by decide))))) (below_size (sC_ HB))); have n4_ := am (bkB (g := gbz11) (o := .cells #[.string tz1, .int .i64 tz2, .slice Ao21 tz3.length co21, .slice Ao22 tz6.length co22, .bool tz9] 50 (0, 0)) (by (with_reducible repeat (first | refine blk_drewN ?_ _ | refine bkD ?_ | refine bkA ?_ _)); apply bp5; exact pk BKz11) hb); have n5_ := am (below_step (sC_ HB) hb); clear HOz5; clear HOz8; clear BKz11; clear HB; have HOz5 := n0_; have HOz8 := n1_; have HOz17 := n2_; have HOz20 := n3_; have BKz11 := n4_; have HB := n5_; clear n0_ n1_ n2_ n3_ n4_ n5_; (try clear ho1)) | ((with_reducible refine gate_dst (N := 4) rfl ?_); refine box_event ?hg (N := 4) ?hd (cs := #[.string (⟨#[]⟩ : ByteArray), .int .i64 0, .slice none 0 0, .slice none 0 0, .bool false]) (t := 50) ?hr ?_; (case hd => rfl); (case hg => rfl); (case hr => first | (go_simp; done) | (go_simp; rfl)); intro gbz23 hg w24 hbox hb; have n0_ := am (Kd.R_below (pr HOz5) hb); have n1_ := am (Kd.R_below (pr HOz8) hb); have n2_ := am (Kd.R_below (pr HOz17) hb); have n3_ := am (Kd.R_below (pr HOz20) hb); have n4_ := am (bkB (pk BKz11) hb); have n5_ := am (below_step (sC_ HB) hb); have n6_ := am (hbox); have n7_ := ge_ hg (sC_ HB); have n8_ := ge_ hg (sC_ HB); have n9_ := nl_ hg BKz11; have n10_ := ng_ hg BKz11; clear HOz5; clear HOz8; clear HOz17; clear HOz20; clear BKz11; clear HB; have HOz5 := n0_; have HOz8 := n1_; have HOz17 := n2_; have HOz20 := n3_; have BKz11 := n4_; have HB := n5_; have BKz23 := n6_; have GWz23 := n7_; have GEz23 := n8_; have NBz11_z23 := n9_; have NBz23_z11 := n10_; clear n0_ n1_ n2_ n3_ n4_ n5_ n6_ n7_ n8_ n9_ n10_; clear hb hbox hg; have hnb25 := NBz23_z11.out; have hnc25 := NBz11_z23.out; obtain ⟨hcz26_0, hcz26_1, hcz26_2, hcz26_3, hcz26_4⟩ := bc5 BKz23; obtain ⟨hfz26_0, hfz26_1, hfz26_2, hfz26_3, hfz26_4⟩ := bf5 BKz23; obtain ⟨Ao27, co27, eo27⟩ := Kd.R_slice HOz17.out; subst eo27; obtain ⟨Ao28, co28, eo28⟩ := Kd.R_slice HOz20.out; subst eo28) | ((with_reducible refine gate_callee (f := 35) rfl ?_); refine goesL_ (some 29) rfl rfl Try.func35 (by kernel_rfl) rfl #[.agg #[.string tz13, .int .i64 tz14, .slice Ao27 tz15.length co27, .slice Ao28 tz18.length co28, .bool tz21], .string (⟨#[120]⟩ : ByteArray)] rfl (by (try simp only [List.map_toArray, List.map_cons, List.map_nil]) <;> rfl) ?_; (with_reducible refine (ideal_Label.calls k tz13 tz14 _ _ tz15 _ _ tz18 tz21 (⟨#[120]⟩ : ByteArray) tz24 tz25 tz26 tz27 tz30 tz33 tz34 _ ?side1 ?side2 ?side3 ?side4 A3.out).mono ?_); (case side1 => refine (Kd.R_reads' (e := 72) (base := w.heap.size) (ok := fun k_ => (True ∧ some k_ ≠ (.slice Ao21 tz3.length co21 : Value).ownBlock)) (n := tz15.length) (c := co27) ?_).2.2; exact (by (with_reducible repeat first | apply ra | apply rn | apply rd); exact (rs5 HOz17 BKz23 (by decide)))); (case side2 => exact (Kd.R_reads' HOz17.out).2.1); (case side3 => refine (Kd.R_reads' (e := 74) (base := w.heap.size) (ok := fun k_ => (True ∧ some k_ ≠ (.slice Ao22 tz6.length co22 : Value).ownBlock)) (n := tz18.length) (c := co28) ?_).2.2; exact (by (with_reducible repeat first | apply ra | apply rn | apply rd); exact (rs5 HOz20 BKz23 (by decide)))); (case side4 => exact (Kd.R_reads' HOz20.out).2.1); rintro e w29 ⟨vz28, vz31, rfl, ho0, ho1, hb⟩; refine ⟨_, rfl, ?_⟩; have n0_ := am (Kd.R_elder' (by (with_reducible repeat first | apply ra | apply rn | apply rd); exact (rs5 HOz5 BKz23 (by decide))) (Kd.R_base ho0) hb); have n1_ := am (Kd.R_elder' (by (with_reducible repeat first | apply ra | apply rn | apply rd); exact (rs5 HOz8 BKz23 (by decide))) (Kd.R_base ho1) hb); have n2_ := am (Kd.R_elder' (by (with_reducible repeat first | apply ra | apply rn | apply rd); exact (rs5 HOz17 BKz23 (by decide))) (Kd.R_base ho0) hb); have n3_ := am (Kd.R_elder' (by (with_reducible repeat first | apply ra | apply rn | apply rd); exact (rs5 HOz20 BKz23 (by decide))) (Kd.R_base ho1) hb); have n4_ := am (Kd.R_lower (Kd.R_new' (Kd.R_new' ho0 (Kd.R_lt (by (with_reducible repeat first | apply ra | apply rn | apply rd); exact (rs5 HOz5 BKz23 (by decide))))) (Kd.R_lt (by (with_reducible repeat first | apply ra | apply rn | apply rd); exact (rs5 HOz17 BKz23 (by decide))))) (below_size (sC_ HB))); have n5_ := am (Kd.R_lower (Kd.R_new' (Kd.R_new' ho1 (Kd.R_lt (by (with_reducible repeat first | apply ra | apply rn | apply rd); exact (rs5 HOz8 BKz23 (by decide))))) (Kd.R_lt (by (with_reducible repeat first | apply ra | apply rn | apply rd); exact (rs5 HOz20 BKz23 (by decide))))) (below_size (sC_ HB))); have n6_ := am (bkB (g := gbz11) (o := .cells #[.string tz1, .int .i64 tz2, .slice Ao21 tz3.length co21, .slice Ao22 tz6.length co22, .bool tz9] 50 (0, 0)) (by (with_reducible repeat (first | refine blk_drewN ?_ _ | refine bkD ?_ | refine bkA ?_ _)); refine br5 ?_ NBz11_z23; exact pk BKz11) hb); have n7_ := am (bkB (g := gbz23) (o := .cells #[.string tz13, .int .i64 tz14, .slice Ao27 tz15.length co27, .slice Ao28 tz18.length co28, .bool tz21] 50 (0, 0)) (by (with_reducible repeat (first | refine blk_drewN ?_ _ | refine bkD ?_ | refine bkA ?_ _)); apply bp5; exact pk BKz23) hb); have n8_ := am (below_step (sC_ HB) hb); clear HOz5; clear HOz8; clear HOz17; clear HOz20; clear BKz11; clear BKz23; clear HB; have HOz5 := n0_; have HOz8 := n1_; have HOz17 := n2_; have HOz20 := n3_; have HOz29 := n4_; have HOz32 := n5_; have BKz11 := n6_; have BKz23 := n7_; have HB := n8_; clear n0_ n1_ n2_ n3_ n4_ n5_ n6_ n7_ n8_; (try clear ho1)) | ((with_reducible refine gate_dst (N := 7) rfl ?_); refine box_event ?hg (N := 7) ?hd (cs := #[.string (⟨#[]⟩ : ByteArray), .int .i64 0, .slice none 0 0, .slice none 0 0, .bool false]) (t := 50) ?hr ?_; (case hd => rfl); (case hg => rfl); (case hr => first | (go_simp; done) | (go_simp; rfl)); intro gbz35 hg w30 hbox hb; have n0_ := am (Kd.R_below (pr HOz5) hb); have n1_ := am (Kd.R_below (pr HOz8) hb); have n2_ := am (Kd.R_below (pr HOz17) hb); have n3_ := am (Kd.R_below (pr HOz20) hb); have n4_ := am (Kd.R_below (pr HOz29) hb); have n5_ := am (Kd.R_below (pr HOz32) hb); have n6_ := am (bkB (pk BKz11) hb); have n7_ := am (bkB (pk BKz23) hb); have n8_ := am (below_step (sC_ HB) hb); have n9_ := am (hbox); have n10_ := ge_ hg (sC_ HB); have n11_ := ge_ hg (sC_ HB); have n12_ := nl_ hg BKz11; have n13_ := ng_ hg BKz11; have n14_ := nl_ hg BKz23; have n15_ := ng_ hg BKz23; clear HOz5; clear HOz8; clear HOz17; clear HOz20; clear HOz29; clear HOz32; clear BKz11; clear BKz23; clear HB; have HOz5 := n0_; have HOz8 := n1_; have HOz17 := n2_; have HOz20 := n3_; have HOz29 := n4_; have HOz32 := n5_; have BKz11 := n6_; have BKz23 := n7_; have HB := n8_; have BKz35 := n9_; have GWz35 := n10_; have GEz35 := n11_; have NBz11_z35 := n12_; have NBz35_z11 := n13_; have NBz23_z35 := n14_; have NBz35_z23 := n15_; clear n0_ n1_ n2_ n3_ n4_ n5_ n6_ n7_ n8_ n9_ n10_ n11_ n12_ n13_ n14_ n15_; clear hb hbox hg; have hnb31 := NBz35_z11.out; have hnc31 := NBz11_z35.out; have hnb32 := NBz35_z23.out; have hnc32 := NBz23_z35.out; obtain ⟨hcz33_0, hcz33_1, hcz33_2, hcz33_3, hcz33_4⟩ := bc5 BKz35; obtain ⟨hfz33_0, hfz33_1, hfz33_2, hfz33_3, hfz33_4⟩ := bf5 BKz35; obtain ⟨Ao34, co34, eo34⟩ := Kd.R_slice HOz29.out; subst eo34; obtain ⟨Ao35, co35, eo35⟩ := Kd.R_slice HOz32.out; subst eo35; obtain ⟨hcz36_0, hcz36_1, hcz36_2, hcz36_3, hcz36_4⟩ := bc5 BKz23; obtain ⟨hfz36_0, hfz36_1, hfz36_2, hfz36_3, hfz36_4⟩ := bf5 BKz23) | ((with_reducible refine gate_callee (f := 35) rfl ?_); refine goesL_ (some 35) rfl rfl Try.func35 (by kernel_rfl) rfl #[.agg #[.string tz13, .int .i64 tz14, .slice Ao27 tz15.length co27, .slice Ao28 tz18.length co28, .bool tz21], .string (⟨#[121]⟩ : ByteArray)] rfl (by (try simp only [List.map_toArray, List.map_cons, List.map_nil]) <;> rfl) ?_; (with_reducible refine (ideal_Label.calls k tz13 tz14 _ _ tz15 _ _ tz18 tz21 (⟨#[121]⟩ : ByteArray) tz36 tz37 tz38 tz39 tz42 tz45 tz46 _ ?side1 ?side2 ?side3 ?side4 A4.out).mono ?_); (case side1 => refine (Kd.R_reads' (e := 72) (base := w.heap.size) (ok := fun k_ => ((True ∧ some k_ ≠ (.slice Ao21 tz3.length co21 : Value).ownBlock) ∧ some k_ ≠ (.slice Ao34 tz27.length co34 : Value).ownBlock)) (n := tz15.length) (c := co27) ?_).2.2; exact (by (with_reducible repeat first | apply ra | apply rn | apply rd); exact (rs5 HOz17 BKz35 (by decide)))); (case side2 => exact (Kd.R_reads' HOz17.out).2.1); (case side3 => refine (Kd.R_reads' (e := 74) (base := w.heap.size) (ok := fun k_ => ((True ∧ some k_ ≠ (.slice Ao22 tz6.length co22 : Value).ownBlock) ∧ some k_ ≠ (.slice Ao35 tz30.length co35 : Value).ownBlock)) (n := tz18.length) (c := co28) ?_).2.2; exact (by (with_reducible repeat first | apply ra | apply rn | apply rd); exact (rs5 HOz20 BKz35 (by decide)))); (case side4 => exact (Kd.R_reads' HOz20.out).2.1); rintro e w37 ⟨vz40, vz43, rfl, ho0, ho1, hb⟩; refine ⟨_, rfl, ?_⟩; have n0_ := am (Kd.R_elder' (by (with_reducible repeat first | apply ra | apply rn | apply rd); exact (rs5 HOz5 BKz35 (by decide))) (Kd.R_base ho0) hb); have n1_ := am (Kd.R_elder' (by (with_reducible repeat first | apply ra | apply rn | apply rd); exact (rs5 HOz8 BKz35 (by decide))) (Kd.R_base ho1) hb); have n2_ := am (Kd.R_elder' (by (with_reducible repeat first | apply ra | apply rn | apply rd); exact (rs5 HOz17 BKz35 (by decide))) (Kd.R_base ho0) hb); have n3_ := am (Kd.R_elder' (by (with_reducible repeat first | apply ra | apply rn | apply rd); exact (rs5 HOz20 BKz35 (by decide))) (Kd.R_base ho1) hb); have n4_ := am (Kd.R_elder' (by (with_reducible repeat first | apply ra | apply rn | apply rd); exact (rs5 HOz29 BKz35 (by decide))) (Kd.R_base ho0) hb); have n5_ := am (Kd.R_elder' (by (with_reducible repeat first | apply ra | apply rn | apply rd); exact (rs5 HOz32 BKz35 (by decide))) (Kd.R_base ho1) hb); have n6_ := am (Kd.R_lower (Kd.R_new' (Kd.R_new' (Kd.R_new' ho0 (Kd.R_lt (by (with_reducible repeat first | apply ra | apply rn | apply rd); exact (rs5 HOz5 BKz35 (by decide))))) (Kd.R_lt (by (with_reducible repeat first | apply ra | apply rn | apply rd); exact (rs5 HOz17 BKz35 (by decide))))) (Kd.R_lt (by (with_reducible repeat first | apply ra | apply rn | apply rd); exact (rs5 HOz29 BKz35 (by decide))))) (below_size (sC_ HB))); have n7_ := am (Kd.R_lower (Kd.R_new' (Kd.R_new' (Kd.R_new' ho1 (Kd.R_lt (by (with_reducible repeat first | apply ra | apply rn | apply rd); exact (rs5 HOz8 BKz35 (by decide))))) (Kd.R_lt (by (with_reducible repeat first | apply ra | apply rn | apply rd); exact (rs5 HOz20 BKz35 (by decide))))) (Kd.R_lt (by (with_reducible repeat first | apply ra | apply rn | apply rd); exact (rs5 HOz32 BKz35 (by decide))))) (below_size (sC_ HB))); have n8_ := am (bkB (g := gbz11) (o := .cells #[.string tz1, .int .i64 tz2, .slice Ao21 tz3.length co21, .slice Ao22 tz6.length co22, .bool tz9] 50 (0, 0)) (by (with_reducible repeat (first | refine blk_drewN ?_ _ | refine bkD ?_ | refine bkA ?_ _)); refine br5 ?_ NBz11_z35; exact pk BKz11) hb); have n9_ := am (bkB (g := gbz23) (o := .cells #[.string tz13, .int .i64 tz14, .slice Ao27 tz15.length co27, .slice Ao28 tz18.length co28, .bool tz21] 50 (0, 0)) (by (with_reducible repeat (first | refine blk_drewN ?_ _ | refine bkD ?_ | refine bkA ?_ _)); refine br5 ?_ NBz23_z35; exact pk BKz23) hb); have n10_ := am (bkB (g := gbz35) (o := .cells #[.string tz25, .int .i64 tz26, .slice Ao34 tz27.length co34, .slice Ao35 tz30.length co35, .bool tz33] 50 (0, 0)) (by (with_reducible repeat (first | refine blk_drewN ?_ _ | refine bkD ?_ | refine bkA ?_ _)); apply bp5; exact pk BKz35) hb); have n11_ := am (below_step (sC_ HB) hb); clear HOz5; clear HOz8; clear HOz17; clear HOz20; clear HOz29; clear HOz32; clear BKz11; clear BKz23; clear BKz35; clear HB; have HOz5 := n0_; have HOz8 := n1_; have HOz17 := n2_; have HOz20 := n3_; have HOz29 := n4_; have HOz32 := n5_; have HOz41 := n6_; have HOz44 := n7_; have BKz11 := n8_; have BKz23 := n9_; have BKz35 := n10_; have HB := n11_; clear n0_ n1_ n2_ n3_ n4_ n5_ n6_ n7_ n8_ n9_ n10_ n11_; (try clear ho1)) | ((with_reducible refine gate_dst (N := 10) rfl ?_); refine box_event ?hg (N := 10) ?hd (cs := #[.string (⟨#[]⟩ : ByteArray), .int .i64 0, .slice none 0 0, .slice none 0 0, .bool false]) (t := 50) ?hr ?_; (case hd => rfl); (case hg => rfl); (case hr => first | (go_simp; done) | (go_simp; rfl)); intro gbz47 hg w38 hbox hb; have n0_ := am (Kd.R_below (pr HOz5) hb); have n1_ := am (Kd.R_below (pr HOz8) hb); have n2_ := am (Kd.R_below (pr HOz17) hb); have n3_ := am (Kd.R_below (pr HOz20) hb); have n4_ := am (Kd.R_below (pr HOz29) hb); have n5_ := am (Kd.R_below (pr HOz32) hb); have n6_ := am (Kd.R_below (pr HOz41) hb); have n7_ := am (Kd.R_below (pr HOz44) hb); have n8_ := am (bkB (pk BKz11) hb); have n9_ := am (bkB (pk BKz23) hb); have n10_ := am (bkB (pk BKz35) hb); have n11_ := am (below_step (sC_ HB) hb); have n12_ := am (hbox); have n13_ := ge_ hg (sC_ HB); have n14_ := ge_ hg (sC_ HB); have n15_ := nl_ hg BKz11; have n16_ := ng_ hg BKz11; have n17_ := nl_ hg BKz23; have n18_ := ng_ hg BKz23; have n19_ := nl_ hg BKz35; have n20_ := ng_ hg BKz35; clear HOz5; clear HOz8; clear HOz17; clear HOz20; clear HOz29; clear HOz32; clear HOz41; clear HOz44; clear BKz11; clear BKz23; clear BKz35; clear HB; have HOz5 := n0_; have HOz8 := n1_; have HOz17 := n2_; have HOz20 := n3_; have HOz29 := n4_; have HOz32 := n5_; have HOz41 := n6_; have HOz44 := n7_; have BKz11 := n8_; have BKz23 := n9_; have BKz35 := n10_; have HB := n11_; have BKz47 := n12_; have GWz47 := n13_; have GEz47 := n14_; have NBz11_z47 := n15_; have NBz47_z11 := n16_; have NBz23_z47 := n17_; have NBz47_z23 := n18_; have NBz35_z47 := n19_; have NBz47_z35 := n20_; clear n0_ n1_ n2_ n3_ n4_ n5_ n6_ n7_ n8_ n9_ n10_ n11_ n12_ n13_ n14_ n15_ n16_ n17_ n18_ n19_ n20_; clear hb hbox hg; have hnb39 := NBz47_z11.out; have hnc39 := NBz11_z47.out; have hnb40 := NBz47_z23.out; have hnc40 := NBz23_z47.out; have hnb41 := NBz47_z35.out; have hnc41 := NBz35_z47.out; obtain ⟨hcz42_0, hcz42_1, hcz42_2, hcz42_3, hcz42_4⟩ := bc5 BKz47; obtain ⟨hfz42_0, hfz42_1, hfz42_2, hfz42_3, hfz42_4⟩ := bf5 BKz47; obtain ⟨Ao43, co43, eo43⟩ := Kd.R_slice HOz41.out; subst eo43; obtain ⟨Ao44, co44, eo44⟩ := Kd.R_slice HOz44.out; subst eo44; obtain ⟨hcz45_0, hcz45_1, hcz45_2, hcz45_3, hcz45_4⟩ := bc5 BKz11; obtain ⟨hfz45_0, hfz45_1, hfz45_2, hfz45_3, hfz45_4⟩ := bf5 BKz11) | ((with_reducible refine gate_callee (f := 43) rfl ?_); refine goesL_ (some 41) rfl rfl Try.func43 (by kernel_rfl) rfl #[.agg #[.string tz1, .int .i64 tz2, .slice Ao21 tz3.length co21, .slice Ao22 tz6.length co22, .bool tz9], .string (⟨#[120]⟩ : ByteArray), .string (⟨#[121]⟩ : ByteArray)] rfl (by (try simp only [List.map_toArray, List.map_cons, List.map_nil]) <;> rfl) ?_; (with_reducible refine (ideal_Open.calls tz1 tz2 _ _ tz3 _ _ tz6 tz9 (⟨#[120]⟩ : ByteArray) (⟨#[121]⟩ : ByteArray) tz48 tz49 _ ?side1 ?side2 ?side3 ?side4 A5.out).mono ?_); (case side1 => refine (Kd.R_reads' (e := 72) (base := w.heap.size) (ok := fun k_ => (((True ∧ some k_ ≠ (.slice Ao27 tz15.length co27 : Value).ownBlock) ∧ some k_ ≠ (.slice Ao34 tz27.length co34 : Value).ownBlock) ∧ some k_ ≠ (.slice Ao43 tz39.length co43 : Value).ownBlock)) (n := tz3.length) (c := co21) ?_).2.2; exact (by (with_reducible repeat first | apply ra | apply rn | apply rd); exact (rs5 HOz5 BKz47 (by decide)))); (case side2 => exact (Kd.R_reads' HOz5.out).2.1); (case side3 => refine (Kd.R_reads' (e := 74) (base := w.heap.size) (ok := fun k_ => (((True ∧ some k_ ≠ (.slice Ao28 tz18.length co28 : Value).ownBlock) ∧ some k_ ≠ (.slice Ao35 tz30.length co35 : Value).ownBlock) ∧ some k_ ≠ (.slice Ao44 tz42.length co44 : Value).ownBlock)) (n := tz6.length) (c := co22) ?_).2.2; exact (by (with_reducible repeat first | apply ra | apply rn | apply rd); exact (rs5 HOz8 BKz47 (by decide)))); (case side4 => exact (Kd.R_reads' HOz8.out).2.1); rintro e w46 ⟨rfl, hb⟩; refine ⟨_, rfl, ?_⟩; have n0_ := am (Kd.R_below (by (with_reducible repeat first | apply ra | apply rn | apply rd); exact (rs5 HOz5 BKz47 (by decide))) hb); have n1_ := am (Kd.R_below (by (with_reducible repeat first | apply ra | apply rn | apply rd); exact (rs5 HOz8 BKz47 (by decide))) hb); have n2_ := am (Kd.R_below (by (with_reducible repeat first | apply ra | apply rn | apply rd); exact (rs5 HOz17 BKz47 (by decide))) hb); have n3_ := am (Kd.R_below (by (with_reducible repeat first | apply ra | apply rn | apply rd); exact (rs5 HOz20 BKz47 (by decide))) hb); have n4_ := am (Kd.R_below (by (with_reducible repeat first | apply ra | apply rn | apply rd); exact (rs5 HOz29 BKz47 (by decide))) hb); have n5_ := am (Kd.R_below (by (with_reducible repeat first | apply ra | apply rn | apply rd); exact (rs5 HOz32 BKz47 (by decide))) hb); have n6_ := am (Kd.R_below (by (with_reducible repeat first | apply ra | apply rn | apply rd); exact (rs5 HOz41 BKz47 (by decide))) hb); have n7_ := am (Kd.R_below (by (with_reducible repeat first | apply ra | apply rn | apply rd); exact (rs5 HOz44 BKz47 (by decide))) hb); have n8_ := am (bkB (g := gbz11) (o := .cells #[.string tz1, .int .i64 tz2, .slice Ao21 tz3.length co21, .slice Ao22 tz6.length co22, .bool tz9] 50 (0, 0)) (by (with_reducible repeat (first | refine blk_drewN ?_ _ | refine bkD ?_ | refine bkA ?_ _)); refine br5 ?_ NBz11_z47; exact pk BKz11) hb); have n9_ := am (bkB (g := gbz23) (o := .cells #[.string tz13, .int .i64 tz14, .slice Ao27 tz15.length co27, .slice Ao28 tz18.length co28, .bool tz21] 50 (0, 0)) (by (with_reducible repeat (first | refine blk_drewN ?_ _ | refine bkD ?_ | refine bkA ?_ _)); refine br5 ?_ NBz23_z47; exact pk BKz23) hb); have n10_ := am (bkB (g := gbz35) (o := .cells #[.string tz25, .int .i64 tz26, .slice Ao34 tz27.length co34, .slice Ao35 tz30.length co35, .bool tz33] 50 (0, 0)) (by (with_reducible repeat (first | refine blk_drewN ?_ _ | refine bkD ?_ | refine bkA ?_ _)); refine br5 ?_ NBz35_z47; exact pk BKz35) hb); have n11_ := am (bkB (g := gbz47) (o := .cells #[.string tz37, .int .i64 tz38, .slice Ao43 tz39.length co43, .slice Ao44 tz42.length co44, .bool tz45] 50 (0, 0)) (by (with_reducible repeat (first | refine blk_drewN ?_ _ | refine bkD ?_ | refine bkA ?_ _)); apply bp5; exact pk BKz47) hb); have n12_ := am (below_step (sC_ HB) hb); clear HOz5; clear HOz8; clear HOz17; clear HOz20; clear HOz29; clear HOz32; clear HOz41; clear HOz44; clear BKz11; clear BKz23; clear BKz35; clear BKz47; clear HB; have HOz5 := n0_; have HOz8 := n1_; have HOz17 := n2_; have HOz20 := n3_; have HOz29 := n4_; have HOz32 := n5_; have HOz41 := n6_; have HOz44 := n7_; have BKz11 := n8_; have BKz23 := n9_; have BKz35 := n10_; have BKz47 := n11_; have HB := n12_; clear n0_ n1_ n2_ n3_ n4_ n5_ n6_ n7_ n8_ n9_ n10_ n11_ n12_; (try clear hi)) | ((with_reducible refine gate_callee (f := 30) rfl ?_); refine goesL_ (some 46) rfl rfl Try.func30 (by kernel_rfl) rfl #[.agg #[.string (⟨#[]⟩ : ByteArray), .int .i64 1]] rfl (by (try simp only [List.map_toArray, List.map_cons, List.map_nil]) <;> rfl) ?_; (with_reducible refine (ideal_New.calls (⟨#[]⟩ : ByteArray) 1 tz50 tz51 tz52 tz55 tz58 tz59 _ A6.out).mono ?_); rintro e w47 ⟨vz53, vz56, rfl, ho0, ho1, hb⟩; refine ⟨_, rfl, ?_⟩; have n0_ := am (Kd.R_elder' (pr HOz5) (Kd.R_base ho0) hb); have n1_ := am (Kd.R_elder' (pr HOz8) (Kd.R_base ho1) hb); have n2_ := am (Kd.R_elder' (pr HOz17) (Kd.R_base ho0) hb); have n3_ := am (Kd.R_elder' (pr HOz20) (Kd.R_base ho1) hb); have n4_ := am (Kd.R_elder' (pr HOz29) (Kd.R_base ho0) hb); have n5_ := am (Kd.R_elder' (pr HOz32) (Kd.R_base ho1) hb); have n6_ := am (Kd.R_elder' (pr HOz41) (Kd.R_base ho0) hb); have n7_ := am (Kd.R_elder' (pr HOz44) (Kd.R_base ho1) hb); have n8_ := am (Kd.R_lower (Kd.R_new' (Kd.R_new' (Kd.R_new' (Kd.R_new' ho0 (Kd.R_lt (pr HOz5))) (Kd.R_lt (pr HOz17))) (Kd.R_lt (pr HOz29))) (Kd.R_lt (pr HOz41))) (below_size (sC_ HB))); have n9_ := am (Kd.R_lower (Kd.R_new' (Kd.R_new' (Kd.R_new' (Kd.R_new' ho1 (Kd.R_lt (pr HOz8))) (Kd.R_lt (pr HOz20))) (Kd.R_lt (pr HOz32))) (Kd.R_lt (pr HOz44))) (below_size (sC_ HB))); have n10_ := am (bkB (pk BKz11) hb); have n11_ := am (bkB (pk BKz23) hb); have n12_ := am (bkB (pk BKz35) hb); have n13_ := am (bkB (pk BKz47) hb); have n14_ := am (below_step (sC_ HB) hb); clear HOz5; clear HOz8; clear HOz17; clear HOz20; clear HOz29; clear HOz32; clear HOz41; clear HOz44; clear BKz11; clear BKz23; clear BKz35; clear BKz47; clear HB; have HOz5 := n0_; have HOz8 := n1_; have HOz17 := n2_; have HOz20 := n3_; have HOz29 := n4_; have HOz32 := n5_; have HOz41 := n6_; have HOz44 := n7_; have HOz54 := n8_; have HOz57 := n9_; have BKz11 := n10_; have BKz23 := n11_; have BKz35 := n12_; have BKz47 := n13_; have HB := n14_; clear n0_ n1_ n2_ n3_ n4_ n5_ n6_ n7_ n8_ n9_ n10_ n11_ n12_ n13_ n14_; (try clear ho1)) | ((with_reducible refine gate_dst (N := 14) rfl ?_); refine box_event ?hg (N := 14) ?hd (cs := #[.string (⟨#[]⟩ : ByteArray), .int .i64 0, .slice none 0 0, .slice none 0 0, .bool false]) (t := 50) ?hr ?_; (case hd => rfl); (case hg => rfl); (case hr => first | (go_simp; done) | (go_simp; rfl)); intro gbz60 hg w48 hbox hb; have n0_ := am (Kd.R_below (pr HOz5) hb); have n1_ := am (Kd.R_below (pr HOz8) hb); have n2_ := am (Kd.R_below (pr HOz17) hb); have n3_ := am (Kd.R_below (pr HOz20) hb); have n4_ := am (Kd.R_below (pr HOz29) hb); have n5_ := am (Kd.R_below (pr HOz32) hb); have n6_ := am (Kd.R_below (pr HOz41) hb); have n7_ := am (Kd.R_below (pr HOz44) hb); have n8_ := am (Kd.R_below (pr HOz54) hb); have n9_ := am (Kd.R_below (pr HOz57) hb); have n10_ := am (bkB (pk BKz11) hb); have n11_ := am (bkB (pk BKz23) hb); have n12_ := am (bkB (pk BKz35) hb); have n13_ := am (bkB (pk BKz47) hb); have n14_ := am (below_step (sC_ HB) hb); have n15_ := am (hbox); have n16_ := ge_ hg (sC_ HB); have n17_ := ge_ hg (sC_ HB); have n18_ := nl_ hg BKz11; have n19_ := ng_ hg BKz11; have n20_ := nl_ hg BKz23; have n21_ := ng_ hg BKz23; have n22_ := nl_ hg BKz35; have n23_ := ng_ hg BKz35; have n24_ := nl_ hg BKz47; have n25_ := ng_ hg BKz47; clear HOz5; clear HOz8; clear HOz17; clear HOz20; clear HOz29; clear HOz32; clear HOz41; clear HOz44; clear HOz54; clear HOz57; clear BKz11; clear BKz23; clear BKz35; clear BKz47; clear HB; have HOz5 := n0_; have HOz8 := n1_; have HOz17 := n2_; have HOz20 := n3_; have HOz29 := n4_; have HOz32 := n5_; have HOz41 := n6_; have HOz44 := n7_; have HOz54 := n8_; have HOz57 := n9_; have BKz11 := n10_; have BKz23 := n11_; have BKz35 := n12_; have BKz47 := n13_; have HB := n14_; have BKz60 := n15_; have GWz60 := n16_; have GEz60 := n17_; have NBz11_z60 := n18_; have NBz60_z11 := n19_; have NBz23_z60 := n20_; have NBz60_z23 := n21_; have NBz35_z60 := n22_; have NBz60_z35 := n23_; have NBz47_z60 := n24_; have NBz60_z47 := n25_; clear n0_ n1_ n2_ n3_ n4_ n5_ n6_ n7_ n8_ n9_ n10_ n11_ n12_ n13_ n14_ n15_ n16_ n17_ n18_ n19_ n20_ n21_ n22_ n23_ n24_ n25_; clear hb hbox hg; have hnb49 := NBz60_z11.out; have hnc49 := NBz11_z60.out; have hnb50 := NBz60_z23.out; have hnc50 := NBz23_z60.out; have hnb51 := NBz60_z35.out; have hnc51 := NBz35_z60.out; have hnb52 := NBz60_z47.out; have hnc52 := NBz47_z60.out; obtain ⟨hcz53_0, hcz53_1, hcz53_2, hcz53_3, hcz53_4⟩ := bc5 BKz60; obtain ⟨hfz53_0, hfz53_1, hfz53_2, hfz53_3, hfz53_4⟩ := bf5 BKz60; obtain ⟨Ao54, co54, eo54⟩ := Kd.R_slice HOz54.out; subst eo54; obtain ⟨Ao55, co55, eo55⟩ := Kd.R_slice HOz57.out; subst eo55; obtain ⟨hcz56_0, hcz56_1, hcz56_2, hcz56_3, hcz56_4⟩ := bc5 BKz23; obtain ⟨hfz56_0, hfz56_1, hfz56_2, hfz56_3, hfz56_4⟩ := bf5 BKz23; obtain ⟨hcz57_0, hcz57_1, hcz57_2, hcz57_3, hcz57_4⟩ := bc5 BKz35; obtain ⟨hfz57_0, hfz57_1, hfz57_2, hfz57_3, hfz57_4⟩ := bf5 BKz35) | (go_at_call 32; (with_reducible refine (r8_Same.calls k tz13 tz14 _ _ tz15 _ _ tz18 tz21 tz25 tz26 _ _ tz27 _ _ tz30 tz33 true _ ?side1 ?side2 ?side3 ?side4 ?side5 ?side6 ?side7 ?side8 A12.out).mono ?_); (case side1 => refine (Kd.R_reads' (e := 72) (base := w.heap.size) (ok := fun k_ => ((((True ∧ some k_ ≠ (.slice Ao21 tz3.length co21 : Value).ownBlock) ∧ some k_ ≠ (.slice Ao34 tz27.length co34 : Value).ownBlock) ∧ some k_ ≠ (.slice Ao43 tz39.length co43 : Value).ownBlock) ∧ some k_ ≠ (.slice Ao54 tz52.length co54 : Value).ownBlock)) (n := tz15.length) (c := co27) ?_).2.2; exact (by (with_reducible repeat first | apply ra | apply rn | apply rd); exact (rs5 HOz17 BKz60 (by decide)))); (case side2 => exact (Kd.R_reads' HOz17.out).2.1); (case side3 => refine (Kd.R_reads' (e := 74) (base := w.heap.size) (ok := fun k_ => ((((True ∧ some k_ ≠ (.slice Ao22 tz6.length co22 : Value).ownBlock) ∧ some k_ ≠ (.slice Ao35 tz30.length co35 : Value).ownBlock) ∧ some k_ ≠ (.slice Ao44 tz42.length co44 : Value).ownBlock) ∧ some k_ ≠ (.slice Ao55 tz55.length co55 : Value).ownBlock)) (n := tz18.length) (c := co28) ?_).2.2; exact (by (with_reducible repeat first | apply ra | apply rn | apply rd); exact (rs5 HOz20 BKz60 (by decide)))); (case side4 => exact (Kd.R_reads' HOz20.out).2.1); (case side5 => refine (Kd.R_reads' (e := 72) (base := w.heap.size) (ok := fun k_ => ((((True ∧ some k_ ≠ (.slice Ao21 tz3.length co21 : Value).ownBlock) ∧ some k_ ≠ (.slice Ao27 tz15.length co27 : Value).ownBlock) ∧ some k_ ≠ (.slice Ao43 tz39.length co43 : Value).ownBlock) ∧ some k_ ≠ (.slice Ao54 tz52.length co54 : Value).ownBlock)) (n := tz27.length) (c := co34) ?_).2.2; exact (by (with_reducible repeat first | apply ra | apply rn | apply rd); exact (rs5 HOz29 BKz60 (by decide)))); (case side6 => exact (Kd.R_reads' HOz29.out).2.1); (case side7 => refine (Kd.R_reads' (e := 74) (base := w.heap.size) (ok := fun k_ => ((((True ∧ some k_ ≠ (.slice Ao22 tz6.length co22 : Value).ownBlock) ∧ some k_ ≠ (.slice Ao28 tz18.length co28 : Value).ownBlock) ∧ some k_ ≠ (.slice Ao44 tz42.length co44 : Value).ownBlock) ∧ some k_ ≠ (.slice Ao55 tz55.length co55 : Value).ownBlock)) (n := tz30.length) (c := co35) ?_).2.2; exact (by (with_reducible repeat first | apply ra | apply rn | apply rd); exact (rs5 HOz32 BKz60 (by decide)))); (case side8 => exact (Kd.R_reads' HOz32.out).2.1); rintro e w58 ⟨rfl, hb⟩; have n0_ := am (Kd.R_below (by (with_reducible repeat first | apply ra | apply rn | apply rd); exact (rs5 HOz5 BKz60 (by decide))) hb); have n1_ := am (Kd.R_below (by (with_reducible repeat first | apply ra | apply rn | apply rd); exact (rs5 HOz8 BKz60 (by decide))) hb); have n2_ := am (Kd.R_below (by (with_reducible repeat first | apply ra | apply rn | apply rd); exact (rs5 HOz17 BKz60 (by decide))) hb); have n3_ := am (Kd.R_below (by (with_reducible repeat first | apply ra | apply rn | apply rd); exact (rs5 HOz20 BKz60 (by decide))) hb); have n4_ := am (Kd.R_below (by (with_reducible repeat first | apply ra | apply rn | apply rd); exact (rs5 HOz29 BKz60 (by decide))) hb); have n5_ := am (Kd.R_below (by (with_reducible repeat first | apply ra | apply rn | apply rd); exact (rs5 HOz32 BKz60 (by decide))) hb); have n6_ := am (Kd.R_below (by (with_reducible repeat first | apply ra | apply rn | apply rd); exact (rs5 HOz41 BKz60 (by decide))) hb); have n7_ := am (Kd.R_below (by (with_reducible repeat first | apply ra | apply rn | apply rd); exact (rs5 HOz44 BKz60 (by decide))) hb); have n8_ := am (Kd.R_below (by (with_reducible repeat first | apply ra | apply rn | apply rd); exact (rs5 HOz54 BKz60 (by decide))) hb); have n9_ := am (Kd.R_below (by (with_reducible repeat first | apply ra | apply rn | apply rd); exact (rs5 HOz57 BKz60 (by decide))) hb); have n10_ := am (bkB (g := gbz11) (o := .cells #[.string tz1, .int .i64 tz2, .slice Ao21 tz3.length co21, .slice Ao22 tz6.length co22, .bool tz9] 50 (0, 0)) (by (with_reducible repeat (first | refine blk_drewN ?_ _ | refine bkD ?_ | refine bkA ?_ _)); refine br5 ?_ NBz11_z60; exact pk BKz11) hb); have n11_ := am (bkB (g := gbz23) (o := .cells #[.string tz13, .int .i64 tz14, .slice Ao27 tz15.length co27, .slice Ao28 tz18.length co28, .bool tz21] 50 (0, 0)) (by (with_reducible repeat (first | refine blk_drewN ?_ _ | refine bkD ?_ | refine bkA ?_ _)); refine br5 ?_ NBz23_z60; exact pk BKz23) hb); have n12_ := am (bkB (g := gbz35) (o := .cells #[.string tz25, .int .i64 tz26, .slice Ao34 tz27.length co34, .slice Ao35 tz30.length co35, .bool tz33] 50 (0, 0)) (by (with_reducible repeat (first | refine blk_drewN ?_ _ | refine bkD ?_ | refine bkA ?_ _)); refine br5 ?_ NBz35_z60; exact pk BKz35) hb); have n13_ := am (bkB (g := gbz47) (o := .cells #[.string tz37, .int .i64 tz38, .slice Ao43 tz39.length co43, .slice Ao44 tz42.length co44, .bool tz45] 50 (0, 0)) (by (with_reducible repeat (first | refine blk_drewN ?_ _ | refine bkD ?_ | refine bkA ?_ _)); refine br5 ?_ NBz47_z60; exact pk BKz47) hb); have n14_ := am (bkB (g := gbz60) (o := .cells #[.string tz50, .int .i64 tz51, .slice Ao54 tz52.length co54, .slice Ao55 tz55.length co55, .bool tz58] 50 (0, 0)) (by (with_reducible repeat (first | refine blk_drewN ?_ _ | refine bkD ?_ | refine bkA ?_ _)); apply bp5; exact pk BKz60) hb); have n15_ := am (below_step (sC_ HB) hb); clear HOz5; clear HOz8; clear HOz17; clear HOz20; clear HOz29; clear HOz32; clear HOz41; clear HOz44; clear HOz54; clear HOz57; clear BKz11; clear BKz23; clear BKz35; clear BKz47; clear BKz60; clear HB; have HOz5 := n0_; have HOz8 := n1_; have HOz17 := n2_; have HOz20 := n3_; have HOz29 := n4_; have HOz32 := n5_; have HOz41 := n6_; have HOz44 := n7_; have HOz54 := n8_; have HOz57 := n9_; have BKz11 := n10_; have BKz23 := n11_; have BKz35 := n12_; have BKz47 := n13_; have BKz60 := n14_; have HB := n15_; clear n0_ n1_ n2_ n3_ n4_ n5_ n6_ n7_ n8_ n9_ n10_ n11_ n12_ n13_ n14_ n15_; obtain ⟨hcz59_0, hcz59_1, hcz59_2, hcz59_3, hcz59_4⟩ := bc5 BKz23; obtain ⟨hfz59_0, hfz59_1, hfz59_2, hfz59_3, hfz59_4⟩ := bf5 BKz23) | (go_at_call 37; (with_reducible refine (ideal_Right.calls tz13 tz14 _ _ tz15 _ _ tz18 tz21 tz62 _ ?side1 ?side2 ?side3 ?side4 A17.out).mono ?_); (case side1 => repeat (first | exact (Kd.R_reads' HOz17.out).2.2 | (with_reducible refine Kd.C_alloc ?_ _) | (with_reducible refine Kd.C_drewN ?_ _) | (with_reducible refine Kd.C_drew ?_))); (case side2 => exact (Kd.R_reads' HOz17.out).2.1); (case side3 => repeat (first | exact (Kd.R_reads' HOz20.out).2.2 | (with_reducible refine Kd.C_alloc ?_ _) | (with_reducible refine Kd.C_drewN ?_ _) | (with_reducible refine Kd.C_drew ?_))); (case side4 => exact (Kd.R_reads' HOz20.out).2.1); rintro e w60 ⟨rfl, hb⟩; have n0_ := am (Kd.R_below (pr HOz5) hb); have n1_ := am (Kd.R_below (pr HOz8) hb); have n2_ := am (Kd.R_below (pr HOz17) hb); have n3_ := am (Kd.R_below (pr HOz20) hb); have n4_ := am (Kd.R_below (pr HOz29) hb); have n5_ := am (Kd.R_below (pr HOz32) hb); have n6_ := am (Kd.R_below (pr HOz41) hb); have n7_ := am (Kd.R_below (pr HOz44) hb); have n8_ := am (Kd.R_below (pr HOz54) hb); have n9_ := am (Kd.R_below (pr HOz57) hb); have n10_ := am (bkB (pk BKz11) hb); have n11_ := am (bkB (pk BKz23) hb); have n12_ := am (bkB (pk BKz35) hb); have n13_ := am (bkB (pk BKz47) hb); have n14_ := am (bkB (pk BKz60) hb); have n15_ := am (below_step (sC_ HB) hb); clear HOz5; clear HOz8; clear HOz17; clear HOz20; clear HOz29; clear HOz32; clear HOz41; clear HOz44; clear HOz54; clear HOz57; clear BKz11; clear BKz23; clear BKz35; clear BKz47; clear BKz60; clear HB; have HOz5 := n0_; have HOz8 := n1_; have HOz17 := n2_; have HOz20 := n3_; have HOz29 := n4_; have HOz32 := n5_; have HOz41 := n6_; have HOz44 := n7_; have HOz54 := n8_; have HOz57 := n9_; have BKz11 := n10_; have BKz23 := n11_; have BKz35 := n12_; have BKz47 := n13_; have BKz60 := n14_; have HB := n15_; clear n0_ n1_ n2_ n3_ n4_ n5_ n6_ n7_ n8_ n9_ n10_ n11_ n12_ n13_ n14_ n15_; (try clear hi)))
 go_ret
 exact ⟨by first | rfl | (simp <;> rfl) | (simp [*] <;> rfl), sC_ HB⟩
end Go.Proofs.Ytmkncddbecmlpaa.Pr
end
section
namespace Go.Proofs.Ytmkncddbecmlpaa.Pr
open Go.Proofs.Ytmkncddbecmlpaa.Sq Go.RowKit Go.Proofs.YtmkncddbecmlpaaW.PrintWords Go.Proofs.YtmkncddbecmlpaaW.PrintLast Go.Proofs.YtmkncddbecmlpaaW.PrintMore
attribute [local go_sem] max2_int min2_int max_two min_two max_three min_three max_four min_four
set_option linter.unusedVariables false
set_option linter.unusedSimpArgs false
def u8_pick.f (a0 : Int) (a1 : Int) : Option (Int) := if a0 < 0 then (if a1 = 0 then (none) else (some (Int.tmod (wrap64 (-(wrap64 (a0 + 1)))) a1))) else (if a1 = 0 then (none) else (some (Int.tmod a0 a1)))
set_option maxHeartbeats 8000000 in
set_option maxRecDepth 100000 in
theorem u8_pick.calls (a0 : Int) (a1 : Int) (r : Int) (w : World) (h : u8_pick.f a0 a1 = some r) :
  Calls Try.prog 34 #[.int .i64 a0, .int .i64 a1] w fun e w' => e = .returned (.int .i64 r) ∧ Drawn0 w w' := by
 have H : (if a0 < 0 then (if a1 = 0 then (none) else (some (Int.tmod (wrap64 (-(wrap64 (a0 + 1)))) a1))) else (if a1 = 0 then (none) else (some (Int.tmod a0 a1)))) = some r := h
 clear h
 by_cases c3 : a0 < 0
 ·rw [if_pos c3] at H
  have c3b0 : decide (a0 < 0) = true := decide_eq_true c3
  clear c3
  by_cases c4 : a1 = 0
  ·rw [if_pos c4] at H
   exact absurd H (by simp)
  rw [if_neg c4] at H
  have c4b0 : (a1 == 0) = false := beq_eq_false_iff_ne.mpr c4
  have c4b1 : (a1 != 0) = true := bne_iff_ne.mpr c4
  obtain rfl := Option.some.inj H
  go_enter Try.func34, Try.ntmps34
  go_wp2
  go_ret
  exact ⟨by first | rfl | (simp; done) | (simp [*]; done), by repeat (first | exact Drawn0.refl _ | apply Drawn0.step)⟩
 rw [if_neg c3] at H
 have c3b0 : decide (a0 < 0) = false := decide_eq_false c3
 clear c3
 by_cases c5 : a1 = 0
 ·rw [if_pos c5] at H
  exact absurd H (by simp)
 rw [if_neg c5] at H
 have c5b0 : (a1 == 0) = false := beq_eq_false_iff_ne.mpr c5
 have c5b1 : (a1 != 0) = true := bne_iff_ne.mpr c5
 obtain rfl := Option.some.inj H
 go_enter Try.func34, Try.ntmps34
 go_wp2
 go_ret
 exact ⟨by first | rfl | (simp; done) | (simp [*]; done), by repeat (first | exact Drawn0.refl _ | apply Drawn0.step)⟩
end Go.Proofs.Ytmkncddbecmlpaa.Pr
end
section
namespace Go.Proofs.Ytmkncddbecmlpaa.Pr
open Go.Proofs.Ytmkncddbecmlpaa.Sq Go.RowKit Go.Proofs.YtmkncddbecmlpaaW.PrintWords Go.Proofs.YtmkncddbecmlpaaW.PrintLast Go.Proofs.YtmkncddbecmlpaaW.PrintMore
attribute [local go_sem] max2_int min2_int max_two min_two max_three min_three max_four min_four
set_option linter.unusedVariables false
set_option linter.unusedSimpArgs false
mutual
def u8_Draws.l0 : Nat → List Int → Bool → List Int → Int → Option (ByteArray × Int)
 | 0, _, _, _, _ => none
 | k + 1, x0, x1, x5, x6 => if x6 < 2000 then (if (x0.length : Int) > 0 then (if (x0.length : Int) = 0 then (none) else (if 0 ≤ (Int.tmod x6 (x0.length : Int)) then (if (Int.tmod x6 (x0.length : Int)) < (x0.length : Int) then ((u8_pick.f (rd x0 (Int.tmod x6 (x0.length : Int))) 256).bind fun tz3 => (u8_Draws.j1 k x0 x1 x5 x6 (wrap64 ((wrap64 ((wrap64 (7 * x6)) * x6)) + (wrap64 (tz3 * (wrap64 (1 + (wrap64 (Int.tdiv x6 (x0.length : Int))))))))))) else (none)) else (none))) else (u8_Draws.j1 k x0 x1 x5 x6 (wrap64 ((wrap64 (7 * x6)) * x6)))) else (some (strOfNums x5, 0))
def u8_Draws.j1 : Nat → List Int → Bool → List Int → Int → Int → Option (ByteArray × Int)
 | 0, _, _, _, _, _ => none
 | k + 1, x0, x1, x5, x6, x7 => if x1 = true then (if (Int.tmod x6 8) = 0 then (if (x0.length : Int) > 0 then (if (x0.length : Int) = 0 then (none) else (if 0 ≤ (Int.tmod (wrap64 (Int.tdiv x6 8)) (x0.length : Int)) then (if (Int.tmod (wrap64 (Int.tdiv x6 8)) (x0.length : Int)) < (x0.length : Int) then ((u8_pick.f (rd x0 (Int.tmod (wrap64 (Int.tdiv x6 8)) (x0.length : Int))) 3).bind fun tz5 => (if x5.length < 140737488355328 then (u8_Draws.l0 k x0 x1 (x5 ++ [(tz5) % 256]) (wrap64 (x6 + 1))) else (none))) else (none)) else (none))) else (if x5.length < 140737488355328 then (u8_Draws.l0 k x0 x1 (x5 ++ [0]) (wrap64 (x6 + 1))) else (none))) else (if x5.length < 140737488355328 then (u8_Draws.l0 k x0 x1 (x5 ++ [0]) (wrap64 (x6 + 1))) else (none))) else (if x5.length < 140737488355328 then (u8_Draws.l0 k x0 x1 (x5 ++ [(x7) % 256]) (wrap64 (x6 + 1))) else (none))
end
def u8_Draws.f (k : Nat) (l0 : List Int) (a1 : Bool) : Option (ByteArray × Int) := u8_Draws.l0 k l0 a1 ([] : List Int) 0
def u8_Draws.T7 : Bool × List (List Nat × List Nat) := (true, [([], []), ([], []), ([], []), ([], []), ([3], [3]), ([2, 4], [2, 4]), ([1, 5], [1, 5]), ([6], [6]), ([7], [7]), ([], []), ([], []), ([10], [10]), ([9, 11], [9, 11]), ([12], [12]), ([8, 13], [8, 13]), ([0, 14], [0, 14]), ([15, 8, 0, 1, 2, 3, 4, 5, 6, 7, 8, 9, 10, 11, 12, 13, 14, 15], [0, 15])])
def u8_Draws.B7 : List Nat := [0, 0, 0, 0, 8, 28, 62, 126, 254, 0, 0, 1024, 3584, 7680, 16382, 32767, 65535]
theorem u8_Draws.tab7 : rtab .any (opsOf Try.f29 7) = u8_Draws.T7 := by kernel_rfl
theorem u8_Draws.bits7 : waitsOk u8_Draws.T7.2 u8_Draws.B7 = true := by kernel_rfl
set_option maxHeartbeats 8000000 in
set_option maxRecDepth 100000 in
theorem u8_Draws.calls (k : Nat) (A0 : Option Addr) (c0 : Nat) (l0 : List Int) (a1 : Bool) (r1 : ByteArray) (r2 : Int) (w : World) (hr0 : Kd.C (Kd.int .i64) w A0 l0.length l0) (hc0 : l0.length ≤ c0) (h : u8_Draws.f k l0 a1 = some (r1, r2)) :
  Calls Try.prog 29 #[.slice A0 l0.length c0, .bool a1] w fun e w' => e = .returned (.agg #[.string r1, .int .i64 r2]) ∧ Below w.heap.size w w' := by
 have hu23 := Try.underlying23
 have HR0 := am hr0
 have HC0 := am hc0
 clear hr0 hc0
 have HB := am (Below.refl w.heap.size w)
 have H : (u8_Draws.l0 k l0 a1 ([] : List Int) 0) = some (r1, r2) := h
 clear h
 have H' := am H
 clear H
 go_enter Try.func29, Try.ntmps29
 go_wp2_with (first | ((with_reducible refine gate_dst (N := 4) rfl ?_); (try (refine gate_guard (by rfl) ?_; dsimp only)); refine box_event ?hg (N := 4) ?hd (cs := #[.string (⟨#[]⟩ : ByteArray), .int .i64 0]) (t := 23) ?hr ?_; (case hd => rfl); (case hg => rfl); (case hr => first | (go_simp; done) | (go_simp; rfl)); intro gbz1 hg w3 hbox hb; have n0_ := am (below_step (pb HB) hb); have n1_ := am (hbox); have n2_ := ge_ hg (pb HB); have n3_ := ge_ hg (pb HB); clear HB; have HB := n0_; have BKz1 := n1_; have GWz1 := n2_; have GEz1 := n3_; clear n0_ n1_ n2_ n3_; clear hb hbox hg))
 go_loopg [5, 6] k (fun kq v5 v6 w' => ∃ (x5_1 : List Int) (x6_1 : Int), v6 = .int .i64 x6_1 ∧ Aside0 (u8_Draws.l0 kq l0 a1 x5_1 x6_1 = some (r1, r2)) ∧ Aside0 (kq ≤ k) ∧ Aside0 (Kd.R (Kd.int .u8) 5 w' w.heap.size (fun _ => True) v5 x5_1) ∧ Aside0 (w'.heap[gbz1]? = some (.cells #[.string (⟨#[]⟩ : ByteArray), .int .i64 0] 23 (0, 0))) ∧ Aside0 (Below w.heap.size w w'))
 case atStart => exact ⟨(([] : List Int)), (0), (by first | rfl | (simp; done) | (simp [*]; done)), H', ⟨Nat.le_refl _⟩, ⟨by exact Kd.R_nil _ _ _ _ _⟩, (sk_ BKz1), (sB_ HB)⟩
 clear H'
 try clear c2
 try clear p2
 obtain ⟨x5_1, x6_1, rfl, HA, HK1, HO_5, BKz1, HB⟩ := hrel
 cases gk with
 | zero => exact absurd HA.out (by simp [u8_Draws.l0])
 | succ k1 => ?_
 have H := HA.out
 clear HA
 simp only [u8_Draws.l0] at H
 by_cases c4 : x6_1 < 2000
 rotate_left
 ·rw [if_neg c4] at H
  have c4b0 : decide (x6_1 < 2000) = false := decide_eq_false c4
  clear c4
  simp only [Option.some.injEq, Prod.mk.injEq] at H
  obtain ⟨rfl, rfl⟩ := H
  have hcv29 := own_string (P := Try.prog) Try.underlying57 Try.underlying5 Try.underlying9 (Kd.own_of_R HO_5.out)
  obtain ⟨hcz30_0, hcz30_1⟩ := bc2 BKz1
  obtain ⟨hfz30_0, hfz30_1⟩ := bf2 BKz1
  go_wp2
  refine bodyPost_ret (results_cell_row rfl _ _ gbz1 23 #[.string (strOfNums x5_1), .int .i64 0] (0, 0) _ rfl (by (with_reducible repeat (first | refine blk_drewN ?_ _ | refine bkD ?_ | refine bkA ?_ _)); apply bp2; exact pk BKz1) Try.underlying23 rfl (by kernel_rfl)) rfl ?_
  exact ⟨by first | rfl | (simp <;> rfl) | (simp [*] <;> rfl), sC_ HB⟩
 rw [if_pos c4] at H
 have c4b0 : decide (x6_1 < 2000) = true := decide_eq_true c4
 clear c4
 have HC5 := am H
 clear H
 go_upto_if 18 with (fail)
 go_cut [7] (fun v7 wc => ∃ (kq : Nat) (x7_4 : Int), v7 = .int .i64 x7_4 ∧ Aside0 (u8_Draws.j1 kq l0 a1 x5_1 x6_1 x7_4 = some (r1, r2)) ∧ Aside0 (kq ≤ k1) ∧ Aside0 (Kd.R (Kd.int .u8) 5 wc w.heap.size (fun _ => True) u5 x5_1) ∧ Aside0 (wc.heap[gbz1]? = some (.cells #[.string (⟨#[]⟩ : ByteArray), .int .i64 0] 23 (0, 0))) ∧ Aside0 (Below w.heap.size w wc))
 case first =>
  have H := HC5.out
  clear HC5
  by_cases c6 : (l0.length : Int) > 0
  rotate_left
  ·rw [if_neg c6] at H
   have c6b0 : decide (0 < (l0.length : Int)) = false := decide_eq_false c6
   have c6b1 : decide (0 < l0.length) = false := decide_eq_false (by omega)
   clear c6
   (first | rw [c6b0] | rw [c6b1] | (simp only [i64_w, i32_w]; rw [c6b0]) | skip)
   have H' := am H
   clear H
   go_wp2
   go_meet
   case rel => exact ⟨_, (wrap64 ((wrap64 (7 * x6_1)) * x6_1)), (by first | rfl | (simp; done) | (simp [*]; done)), H', ⟨by have := HK1.out; first | omega | exact Nat.le_refl _⟩, (sr_ HO_5), (sk_ BKz1), (sB_ HB)⟩
  rw [if_pos c6] at H
  have c6b0 : decide (0 < (l0.length : Int)) = true := decide_eq_true c6
  have c6b1 : decide (0 < l0.length) = true := decide_eq_true (by omega)
  clear c6
  (first | rw [c6b0] | rw [c6b1] | (simp only [i64_w, i32_w]; rw [c6b0]) | skip)
  by_cases c7 : (l0.length : Int) = 0
  ·rw [if_pos c7] at H
   exact absurd H (by simp)
  rw [if_neg c7] at H
  have c7b0 : ((l0.length : Int) == 0) = false := beq_eq_false_iff_ne.mpr c7
  have c7b1 : ((l0.length : Int) != 0) = true := bne_iff_ne.mpr c7
  have c7b2 : ¬ (l0 = []) := fun h_ => c7 (by rw [h_]; rfl)
  obtain ⟨ji8, hji8⟩ : ∃ j_ : Int, (Int.tmod x6_1 (l0.length : Int)) = j_ := ⟨_, rfl⟩
  replace H : (if 0 ≤ (ji8) then (if (ji8) < (l0.length : Int) then ((u8_pick.f (rd l0 (ji8)) 256).bind fun tz3 => (u8_Draws.j1 k1 l0 a1 x5_1 x6_1 (wrap64 ((wrap64 ((wrap64 (7 * x6_1)) * x6_1)) + (wrap64 (tz3 * (wrap64 (1 + (wrap64 (Int.tdiv x6_1 (l0.length : Int))))))))))) else (none)) else (none)) = some (r1, r2) := by first | (rw [hji8] at H; exact H) | (simp only [hji8] at H ⊢; exact H)
  by_cases c9 : 0 ≤ (ji8)
  rotate_left
  ·rw [if_neg c9] at H
   exact absurd H (by simp)
  rw [if_pos c9] at H
  have c9b0 : decide (0 ≤ (ji8)) = true := decide_eq_true c9
  clear c9
  by_cases c10 : (ji8) < (l0.length : Int)
  rotate_left
  ·rw [if_neg c10] at H
   exact absurd H (by simp)
  rw [if_pos c10] at H
  have c10b0 : decide ((ji8) < (l0.length : Int)) = true := decide_eq_true c10
  clear c10
  replace H := ob_ H
  obtain ⟨tz3, A110, H⟩ := H
  replace H : (u8_Draws.j1 k1 l0 a1 x5_1 x6_1 (wrap64 ((wrap64 ((wrap64 (7 * x6_1)) * x6_1)) + (wrap64 (tz3 * (wrap64 (1 + (wrap64 (Int.tdiv x6_1 (l0.length : Int)))))))))) = some (r1, r2) := H
  have A11 := Aside0.mk A110
  clear A110
  have H' := am H
  clear H
  try go_wp2
  have n0_ := am (Kd.R_drew HO_5.out)
  have n1_ := am (bkD BKz1.out)
  have n2_ := am (below_drew1 HB.out)
  clear HO_5 BKz1 HB; have HO_5 := n0_; have BKz1 := n1_; have HB := n2_; clear n0_ n1_ n2_
  have pz2 : 0 ≤ ((ji8) : Int) := of_decide_eq_true (by first | (with_reducible assumption) | assumption)
  have qz2 : (ji8) < (l0.length : Int) := of_decide_eq_true (by first | (with_reducible assumption) | assumption)
  obtain ⟨adz2, ez2, hxz2_0⟩ := Kd.at_int HR0.out (ji8) pz2 qz2
  have hwz2_0 := hxz2_0
  cases ez2
  replace hxz2_0 := (HB.out.cell (World.block_lt_of_cell? w _ hxz2_0)).trans hxz2_0
  replace pz2 := eq_true pz2
  replace qz2 := eq_true qz2
  refine start_ (n := 17) (S := fun w' => w'.cell? (adz2.add ((ji8)).toNat) = some (.int .i64 (rd l0 (ji8)))) (ds := []) #[false, false, false, false, false, false, false, false, false, false, false, false, false, false, false, false, false] (by kernel_rfl) rfl rfl (((HB.out.cell (World.block_lt_of_cell? w _ hwz2_0)).trans hwz2_0)) (fun hHeld => ?_); refine with_tabW u8_Draws.tab7 u8_Draws.bits7 (fun HT_ HW_ => ?_)
  generalize wr.drew = w12 at HO_5 BKz1 HB hxz2_0 hHeld ⊢
  refine pv_ 0 (some 19) HT_ ?_
  refine pv_ 1 (some 20) HT_ ?_
  refine pv_ 2 (some 21) HT_ ?_
  refine pv_ 3 (some 22) HT_ ?_
  refine pv_ 4 (some 23) HT_ ?_
  refine pv_ 5 (some 24) HT_ ?_
  refine pv_ 6 (some 25) HT_ ?_
  refine pv_ 9 (some 28) HT_ ?_
  refine pv_ 10 (some 29) HT_ ?_
  refine pv_ 11 (some 30) HT_ ?_
  refine pv_ 12 (some 31) HT_ ?_
  refine pv_ 13 (some 32) HT_ ?_
  refine tk_ 7 (some 26) HT_ HW_ rfl rfl (.inl ⟨by rfl, by intro w' s0; go_simp; with_reducible rfl⟩) hHeld (by simp only [Act.put, sa_, s0_, s1_, i64_w, i32_w]; rfl) ?_
  refine on_ 8 (some 27) HT_ rfl rfl (fun K hK => ?_)
  refine goes_ Try.func34 (by kernel_rfl) rfl #[.int .i64 (rd l0 (ji8)), .int .i64 256] (by rfl) rfl rfl (by (try simp only [List.map_toArray, List.map_cons, List.map_nil]); first | done | (simp only [hji8]; rfl) | rfl | (simp only [List.length_drop, List.length_take]; rfl)) ?_
  with_reducible refine (u8_pick.calls (rd l0 (ji8)) 256 tz3 _ A11.out).mono ?_
  rintro e w' ⟨rfl, ⟨nd, rfl⟩⟩
  refine ⟨_, rfl, ?_⟩
  refine hK.out _ _ (((HB.out.cell (World.block_lt_of_cell? w _ hwz2_0)).trans hwz2_0)) (fun hHeld => ?_)
  clear hK K
  refine norm_ (by show Act.put _ (some 27) _ = _; simp only [Act.put, sa_, s0_, s1_, i64_w, i32_w]; rfl) ?_
  refine pv_ 14 (some 33) HT_ ?_
  refine pv_ 15 (some 34) HT_ ?_
  refine pv_ 16 (some 7) HT_ ?_
  refine done_ (done_of HT_.out (by kernel_rfl)) ?_
  try go_wp2
  go_meet
  case rel => exact ⟨_, (wrap64 ((wrap64 ((wrap64 (7 * x6_1)) * x6_1)) + (wrap64 (tz3 * (wrap64 (1 + (wrap64 (Int.tdiv x6_1 (l0.length : Int))))))))), (by first | rfl | (simp; done) | (simp [*]; done)), H', ⟨by have := HK1.out; first | omega | exact Nat.le_refl _⟩, (sr_ HO_5), (sk_ BKz1), (sB_ HB)⟩
 clear HC5
 try clear c1
 try clear c2
 try clear p2
 try clear q2
 try clear hx2
 try clear c3
 try clear c4
 try clear c4b0
 try clear c6
 try clear c6b0
 try clear c6b1
 try clear p6
 try clear c7
 try clear c7b0
 try clear c7b1
 try clear c7b2
 try clear c9
 try clear c9b0
 try clear c10
 try clear c10b0
 try clear hxz2_0
 try clear p2
 try clear pz2
 try clear qz2
 obtain ⟨kq, x7_4, rfl, HA, HJ4, HO_5, BKz1, HB⟩ := hcut
 cases kq with
 | zero => exact absurd HA.out (by simp [u8_Draws.j1])
 | succ kj4 => ?_
 have H := HA.out
 clear HA
 simp only [u8_Draws.j1] at H
 by_cases c13 : a1 = true
 rotate_left
 ·replace c13 := Bool.eq_false_iff.mpr c13
  subst c13
  have H1 : (if x5_1.length < 140737488355328 then (u8_Draws.l0 kj4 l0 false (x5_1 ++ [(x7_4) % 256]) (wrap64 (x6_1 + 1))) else (none)) = some (r1, r2) := by rw [if_neg (show ¬ (false = true) by decide)] at H; exact H
  clear H
  have H := H1
  clear H1
  by_cases c27 : x5_1.length < 140737488355328
  rotate_left
  ·rw [if_neg c27] at H
   exact absurd H (by simp)
  rw [if_pos c27] at H
  have LMc27 := Aside0.mk c27
  clear c27
  obtain ⟨yz15, hyz15⟩ : ∃ y_ : List Int, y_ = (x5_1 ++ [(x7_4) % 256]) := ⟨_, rfl⟩
  replace H : (u8_Draws.l0 kj4 l0 false yz15 (wrap64 (x6_1 + 1))) = some (r1, r2) := by first | (rw [hyz15]; with_reducible exact H) | (have H2_ := (Option.bind_some _ _).symm.trans H; rw [hyz15]; with_reducible exact H2_) | (have H2_ := (Option.bind_some _ _).symm.trans H; with_reducible exact H2_) | with_reducible exact H | (rw [hyz15]; exact H) | exact H
  have Nyz15 := am hyz15
  clear hyz15
  have H' := am H
  clear H
  go_wp2_with (first | ((with_reducible refine gate_builtin (b := .append) (xs := #[.tmp 53, .tmp 56]) rfl ?_); (try (refine gate_guard (by rfl) ?_; dsimp only)); at_builtin; refine Kd.R_append (Kd.int .u8) (w0 := w) w.heap.size rfl (.tmp 53) (.tmp 56) 57 5 (.int .u8 0) 1 rfl Try.underlying57 info5 rfl (by decide) (by omega) u5 x5_1 ((x7_4) % 256) [.int .u8 ((x7_4) % 256)] (fun _ => True) (fun _ => False) rfl rfl ?aP (fun _ hk => hk.elim) ?aF ?aO ?aB ?aS ?aL ?_; (case aP => exact rfl); (case aB => exact (sC_ HB)); (case aF => exact (fun _ _ => trivial)); (case aO => exact (pr HO_5)); (case aS => exact (below_size (sC_ HB))); (case aL => have := LMc27.out; omega); intro vz16 w28 ho hb hg hat; rw [← Nyz15.out] at ho; have n0_ := am (blk_grown (g := gbz1) (o := .cells #[.string (⟨#[]⟩ : ByteArray), .int .i64 0] 23 (0, 0)) (pk BKz1) hg (Kd.R_ne HO_5.out BKz1.out (by decide))); have n1_ := am (hb); have n2_ := am (ho); clear BKz1; clear HB; clear HO_5; have BKz1 := n0_; have HB := n1_; have HOz17 := n2_; clear n0_ n1_ n2_; clear ho hb hg hat))
  go_roundg kj4
  case measure => have := HK1.out; have := HJ4.out; omega
  case rel => exact ⟨(yz15), (wrap64 (x6_1 + 1)), (by first | rfl | (simp; done) | (simp [*]; done)), H', ⟨by have := HK1.out; have := HJ4.out; omega⟩, (sr_ HOz17), (sk_ BKz1), (sB_ HB)⟩
 subst c13
 have H1 : (if (Int.tmod x6_1 8) = 0 then (if (l0.length : Int) > 0 then (if (l0.length : Int) = 0 then (none) else (if 0 ≤ (Int.tmod (wrap64 (Int.tdiv x6_1 8)) (l0.length : Int)) then (if (Int.tmod (wrap64 (Int.tdiv x6_1 8)) (l0.length : Int)) < (l0.length : Int) then ((u8_pick.f (rd l0 (Int.tmod (wrap64 (Int.tdiv x6_1 8)) (l0.length : Int))) 3).bind fun tz5 => (if x5_1.length < 140737488355328 then (u8_Draws.l0 kj4 l0 true (x5_1 ++ [(tz5) % 256]) (wrap64 (x6_1 + 1))) else (none))) else (none)) else (none))) else (if x5_1.length < 140737488355328 then (u8_Draws.l0 kj4 l0 true (x5_1 ++ [0]) (wrap64 (x6_1 + 1))) else (none))) else (if x5_1.length < 140737488355328 then (u8_Draws.l0 kj4 l0 true (x5_1 ++ [0]) (wrap64 (x6_1 + 1))) else (none))) = some (r1, r2) := by rw [if_pos rfl] at H; exact H
 clear H
 have H := H1
 clear H1
 by_cases c14 : (Int.tmod x6_1 8) = 0
 rotate_left
 ·rw [if_neg c14] at H
  have c14b0 : ((Int.tmod x6_1 8) == 0) = false := beq_eq_false_iff_ne.mpr c14
  have c14b1 : ((Int.tmod x6_1 8) != 0) = true := bne_iff_ne.mpr c14
  by_cases c25 : x5_1.length < 140737488355328
  rotate_left
  ·rw [if_neg c25] at H
   exact absurd H (by simp)
  rw [if_pos c25] at H
  have LMc25 := Aside0.mk c25
  clear c25
  obtain ⟨yz12, hyz12⟩ : ∃ y_ : List Int, y_ = (x5_1 ++ [0]) := ⟨_, rfl⟩
  replace H : (u8_Draws.l0 kj4 l0 true yz12 (wrap64 (x6_1 + 1))) = some (r1, r2) := by first | (rw [hyz12]; with_reducible exact H) | (have H2_ := (Option.bind_some _ _).symm.trans H; rw [hyz12]; with_reducible exact H2_) | (have H2_ := (Option.bind_some _ _).symm.trans H; with_reducible exact H2_) | with_reducible exact H | (rw [hyz12]; exact H) | exact H
  have Nyz12 := am hyz12
  clear hyz12
  have H' := am H
  clear H
  go_wp2_with (first | ((with_reducible refine gate_builtin (b := .append) (xs := #[.tmp 53, .tmp 56]) rfl ?_); (try (refine gate_guard (by rfl) ?_; dsimp only)); at_builtin; refine Kd.R_append (Kd.int .u8) (w0 := w) w.heap.size rfl (.tmp 53) (.tmp 56) 57 5 (.int .u8 0) 1 rfl Try.underlying57 info5 rfl (by decide) (by omega) u5 x5_1 0 [.int .u8 0] (fun _ => True) (fun _ => False) rfl rfl ?aP (fun _ hk => hk.elim) ?aF ?aO ?aB ?aS ?aL ?_; (case aP => exact rfl); (case aB => exact (sC_ HB)); (case aF => exact (fun _ _ => trivial)); (case aO => exact (pr HO_5)); (case aS => exact (below_size (sC_ HB))); (case aL => have := LMc25.out; omega); intro vz13 w26 ho hb hg hat; rw [← Nyz12.out] at ho; have n0_ := am (blk_grown (g := gbz1) (o := .cells #[.string (⟨#[]⟩ : ByteArray), .int .i64 0] 23 (0, 0)) (pk BKz1) hg (Kd.R_ne HO_5.out BKz1.out (by decide))); have n1_ := am (hb); have n2_ := am (ho); clear BKz1; clear HB; clear HO_5; have BKz1 := n0_; have HB := n1_; have HOz14 := n2_; clear n0_ n1_ n2_; clear ho hb hg hat))
  go_roundg kj4
  case measure => have := HK1.out; have := HJ4.out; omega
  case rel => exact ⟨(yz12), (wrap64 (x6_1 + 1)), (by first | rfl | (simp; done) | (simp [*]; done)), H', ⟨by have := HK1.out; have := HJ4.out; omega⟩, (sr_ HOz14), (sk_ BKz1), (sB_ HB)⟩
 rw [if_pos c14] at H
 have c14b0 : ((Int.tmod x6_1 8) == 0) = true := beq_iff_eq.mpr c14
 have c14b1 : ((Int.tmod x6_1 8) != 0) = false := bne_eq_false_iff_eq.mpr c14
 clear c14
 by_cases c15 : (l0.length : Int) > 0
 rotate_left
 ·rw [if_neg c15] at H
  have c15b0 : decide (0 < (l0.length : Int)) = false := decide_eq_false c15
  have c15b1 : decide (0 < l0.length) = false := decide_eq_false (by omega)
  clear c15
  by_cases c23 : x5_1.length < 140737488355328
  rotate_left
  ·rw [if_neg c23] at H
   exact absurd H (by simp)
  rw [if_pos c23] at H
  have LMc23 := Aside0.mk c23
  clear c23
  obtain ⟨yz9, hyz9⟩ : ∃ y_ : List Int, y_ = (x5_1 ++ [0]) := ⟨_, rfl⟩
  replace H : (u8_Draws.l0 kj4 l0 true yz9 (wrap64 (x6_1 + 1))) = some (r1, r2) := by first | (rw [hyz9]; with_reducible exact H) | (have H2_ := (Option.bind_some _ _).symm.trans H; rw [hyz9]; with_reducible exact H2_) | (have H2_ := (Option.bind_some _ _).symm.trans H; with_reducible exact H2_) | with_reducible exact H | (rw [hyz9]; exact H) | exact H
  have Nyz9 := am hyz9
  clear hyz9
  have H' := am H
  clear H
  go_wp2_with (first | ((with_reducible refine gate_builtin (b := .append) (xs := #[.tmp 53, .tmp 56]) rfl ?_); (try (refine gate_guard (by rfl) ?_; dsimp only)); at_builtin; refine Kd.R_append (Kd.int .u8) (w0 := w) w.heap.size rfl (.tmp 53) (.tmp 56) 57 5 (.int .u8 0) 1 rfl Try.underlying57 info5 rfl (by decide) (by omega) u5 x5_1 0 [.int .u8 0] (fun _ => True) (fun _ => False) rfl rfl ?aP (fun _ hk => hk.elim) ?aF ?aO ?aB ?aS ?aL ?_; (case aP => exact rfl); (case aB => exact (sC_ HB)); (case aF => exact (fun _ _ => trivial)); (case aO => exact (pr HO_5)); (case aS => exact (below_size (sC_ HB))); (case aL => have := LMc23.out; omega); intro vz10 w24 ho hb hg hat; rw [← Nyz9.out] at ho; have n0_ := am (blk_grown (g := gbz1) (o := .cells #[.string (⟨#[]⟩ : ByteArray), .int .i64 0] 23 (0, 0)) (pk BKz1) hg (Kd.R_ne HO_5.out BKz1.out (by decide))); have n1_ := am (hb); have n2_ := am (ho); clear BKz1; clear HB; clear HO_5; have BKz1 := n0_; have HB := n1_; have HOz11 := n2_; clear n0_ n1_ n2_; clear ho hb hg hat))
  go_roundg kj4
  case measure => have := HK1.out; have := HJ4.out; omega
  case rel => exact ⟨(yz9), (wrap64 (x6_1 + 1)), (by first | rfl | (simp; done) | (simp [*]; done)), H', ⟨by have := HK1.out; have := HJ4.out; omega⟩, (sr_ HOz11), (sk_ BKz1), (sB_ HB)⟩
 rw [if_pos c15] at H
 have c15b0 : decide (0 < (l0.length : Int)) = true := decide_eq_true c15
 have c15b1 : decide (0 < l0.length) = true := decide_eq_true (by omega)
 clear c15
 by_cases c16 : (l0.length : Int) = 0
 ·rw [if_pos c16] at H
  exact absurd H (by simp)
 rw [if_neg c16] at H
 have c16b0 : ((l0.length : Int) == 0) = false := beq_eq_false_iff_ne.mpr c16
 have c16b1 : ((l0.length : Int) != 0) = true := bne_iff_ne.mpr c16
 have c16b2 : ¬ (l0 = []) := fun h_ => c16 (by rw [h_]; rfl)
 obtain ⟨ji17, hji17⟩ : ∃ j_ : Int, (Int.tmod (wrap64 (Int.tdiv x6_1 8)) (l0.length : Int)) = j_ := ⟨_, rfl⟩
 replace H : (if 0 ≤ (ji17) then (if (ji17) < (l0.length : Int) then ((u8_pick.f (rd l0 (ji17)) 3).bind fun tz5 => (if x5_1.length < 140737488355328 then (u8_Draws.l0 kj4 l0 true (x5_1 ++ [(tz5) % 256]) (wrap64 (x6_1 + 1))) else (none))) else (none)) else (none)) = some (r1, r2) := by first | (rw [hji17] at H; exact H) | (simp only [hji17] at H ⊢; exact H)
 by_cases c18 : 0 ≤ (ji17)
 rotate_left
 ·rw [if_neg c18] at H
  exact absurd H (by simp)
 rw [if_pos c18] at H
 have c18b0 : decide (0 ≤ (ji17)) = true := decide_eq_true c18
 clear c18
 by_cases c19 : (ji17) < (l0.length : Int)
 rotate_left
 ·rw [if_neg c19] at H
  exact absurd H (by simp)
 rw [if_pos c19] at H
 have c19b0 : decide ((ji17) < (l0.length : Int)) = true := decide_eq_true c19
 clear c19
 replace H := ob_ H
 obtain ⟨tz5, A200, H⟩ := H
 replace H : (if x5_1.length < 140737488355328 then (u8_Draws.l0 kj4 l0 true (x5_1 ++ [(tz5) % 256]) (wrap64 (x6_1 + 1))) else (none)) = some (r1, r2) := H
 have A20 := Aside0.mk A200
 clear A200
 by_cases c21 : x5_1.length < 140737488355328
 rotate_left
 ·rw [if_neg c21] at H
  exact absurd H (by simp)
 rw [if_pos c21] at H
 have LMc21 := Aside0.mk c21
 clear c21
 obtain ⟨yz6, hyz6⟩ : ∃ y_ : List Int, y_ = (x5_1 ++ [(tz5) % 256]) := ⟨_, rfl⟩
 replace H : (u8_Draws.l0 kj4 l0 true yz6 (wrap64 (x6_1 + 1))) = some (r1, r2) := by first | (rw [hyz6]; with_reducible exact H) | (have H2_ := (Option.bind_some _ _).symm.trans H; rw [hyz6]; with_reducible exact H2_) | (have H2_ := (Option.bind_some _ _).symm.trans H; with_reducible exact H2_) | with_reducible exact H | (rw [hyz6]; exact H) | exact H
 have Nyz6 := am hyz6
 clear hyz6
 have H' := am H
 clear H
 have pz4 : 0 ≤ ((ji17) : Int) := of_decide_eq_true (by first | (with_reducible assumption) | assumption)
 have qz4 : (ji17) < (l0.length : Int) := of_decide_eq_true (by first | (with_reducible assumption) | assumption)
 obtain ⟨adz4, ez4, hxz4_0⟩ := Kd.at_int HR0.out (ji17) pz4 qz4
 cases ez4
 replace hxz4_0 := (HB.out.cell (World.block_lt_of_cell? w _ hxz4_0)).trans hxz4_0
 replace pz4 := eq_true pz4
 replace qz4 := eq_true qz4
 go_wp2_with (first | ((with_reducible refine gate_callee (f := 34) rfl ?_); refine goesL_ (some 52) rfl rfl Try.func34 (by kernel_rfl) rfl #[.int .i64 (rd l0 (ji17)), .int .i64 3] rfl (by (try simp only [List.map_toArray, List.map_cons, List.map_nil]); first | done | (simp only [hji17]; rfl) | rfl | (simp only [List.length_drop, List.length_take]; rfl)) ?_; (with_reducible refine (u8_pick.calls (rd l0 (ji17)) 3 tz5 _ A20.out).mono ?_); rintro e w' ⟨rfl, ⟨nd, rfl⟩⟩; refine ⟨_, rfl, ?_⟩) | ((with_reducible refine gate_builtin (b := .append) (xs := #[.tmp 53, .tmp 56]) rfl ?_); (try (refine gate_guard (by rfl) ?_; dsimp only)); at_builtin; refine Kd.R_append (Kd.int .u8) (w0 := w) w.heap.size rfl (.tmp 53) (.tmp 56) 57 5 (.int .u8 0) 1 rfl Try.underlying57 info5 rfl (by decide) (by omega) u5 x5_1 ((tz5) % 256) [.int .u8 ((tz5) % 256)] (fun _ => True) (fun _ => False) rfl rfl ?aP (fun _ hk => hk.elim) ?aF ?aO ?aB ?aS ?aL ?_; (case aP => exact rfl); (case aB => exact (sC_ HB)); (case aF => exact (fun _ _ => trivial)); (case aO => exact (pr HO_5)); (case aS => exact (below_size (sC_ HB))); (case aL => have := LMc21.out; omega); intro vz7 w22 ho hb hg hat; rw [← Nyz6.out] at ho; have n0_ := am (blk_grown (g := gbz1) (o := .cells #[.string (⟨#[]⟩ : ByteArray), .int .i64 0] 23 (0, 0)) (pk BKz1) hg (Kd.R_ne HO_5.out BKz1.out (by decide))); have n1_ := am (hb); have n2_ := am (ho); clear BKz1; clear HB; clear HO_5; have BKz1 := n0_; have HB := n1_; have HOz8 := n2_; clear n0_ n1_ n2_; clear ho hb hg hat))
 go_roundg kj4
 case measure => have := HK1.out; have := HJ4.out; omega
 case rel => exact ⟨(yz6), (wrap64 (x6_1 + 1)), (by first | rfl | (simp; done) | (simp [*]; done)), H', ⟨by have := HK1.out; have := HJ4.out; omega⟩, (sr_ HOz8), (sk_ BKz1), (sB_ HB)⟩
end Go.Proofs.Ytmkncddbecmlpaa.Pr
end
section
namespace Go.Proofs.Ytmkncddbecmlpaa.Pr
open Go.Proofs.Ytmkncddbecmlpaa.Sq Go.RowKit Go.Proofs.YtmkncddbecmlpaaW.PrintWords Go.Proofs.YtmkncddbecmlpaaW.PrintLast Go.Proofs.YtmkncddbecmlpaaW.PrintMore
attribute [local go_sem] max2_int min2_int max_two min_two max_three min_three max_four min_four
set_option linter.unusedVariables false
set_option linter.unusedSimpArgs false
def u8_Label.f (a0 : Int) : Option (ByteArray) := (u8_pick.f a0 4).bind fun tz1 => ((some (([108, (tz1) % 256] : List Int) : List Int)).bind fun yz2 => (if 14 ≤ 281474976710656 then ((some (List.replicate 14 0 : List Int)).bind fun yz5 => (if (strOfNums yz2).size + (strOfNums yz5).size ≤ 9223372036854775807 then (some ((strOfNums yz2) ++ (strOfNums yz5))) else (none))) else (none)))
def u8_Label.T1 : Bool × List (List Nat × List Nat) := (true, [([], []), ([0], [0]), ([1], [1]), ([2], [2]), ([3], [3]), ([], []), ([5], [5]), ([4, 6], [4, 6]), ([7, 1, 0, 1, 2, 3, 4, 5, 6, 7], [7])])
def u8_Label.B1 : List Nat := [0, 1, 3, 7, 15, 0, 32, 127, 255]
theorem u8_Label.tab1 : rtab .any (opsOf Try.f39 1) = u8_Label.T1 := by kernel_rfl
theorem u8_Label.bits1 : waitsOk u8_Label.T1.2 u8_Label.B1 = true := by kernel_rfl
set_option maxHeartbeats 8000000 in
set_option maxRecDepth 100000 in
theorem u8_Label.calls (a0 : Int) (r : ByteArray) (w : World) (h : u8_Label.f a0 = some r) :
  Calls Try.prog 39 #[.int .i64 a0] w fun e w' => e = .returned (.string r) ∧ Below w.heap.size w w' := by
 have HB := am (Below.refl w.heap.size w)
 have H : ((u8_pick.f a0 4).bind fun tz1 => ((some (([108, (tz1) % 256] : List Int) : List Int)).bind fun yz2 => (if 14 ≤ 281474976710656 then ((some (List.replicate 14 0 : List Int)).bind fun yz5 => (if (strOfNums yz2).size + (strOfNums yz5).size ≤ 9223372036854775807 then (some ((strOfNums yz2) ++ (strOfNums yz5))) else (none))) else (none)))) = some r := h
 clear h
 replace H := ob_ H
 obtain ⟨tz1, A20, H⟩ := H
 replace H : ((some (([108, (tz1) % 256] : List Int) : List Int)).bind fun yz2 => (if 14 ≤ 281474976710656 then ((some (List.replicate 14 0 : List Int)).bind fun yz5 => (if (strOfNums yz2).size + (strOfNums yz5).size ≤ 9223372036854775807 then (some ((strOfNums yz2) ++ (strOfNums yz5))) else (none))) else (none))) = some r := H
 have A2 := Aside0.mk A20
 clear A20
 obtain ⟨yz2, hyz2⟩ : ∃ y_ : List Int, y_ = (([108, (tz1) % 256] : List Int)) := ⟨_, rfl⟩
 replace H : (if 14 ≤ 281474976710656 then ((some (List.replicate 14 0 : List Int)).bind fun yz5 => (if (strOfNums yz2).size + (strOfNums yz5).size ≤ 9223372036854775807 then (some ((strOfNums yz2) ++ (strOfNums yz5))) else (none))) else (none)) = some r := by first | (rw [hyz2]; with_reducible exact H) | (have H2_ := (Option.bind_some _ _).symm.trans H; rw [hyz2]; with_reducible exact H2_) | (have H2_ := (Option.bind_some _ _).symm.trans H; with_reducible exact H2_) | with_reducible exact H | (rw [hyz2]; exact H) | exact H
 have Nyz2 := am hyz2
 clear hyz2
 by_cases c3 : 14 ≤ 281474976710656
 rotate_left
 ·rw [if_neg c3] at H
  exact absurd H (by simp)
 rw [if_pos c3] at H
 have c3b0 := eq_true c3
 have c3b1 : decide (14 ≤ 281474976710656) = true := decide_eq_true c3
 clear c3
 obtain ⟨yz5, hyz5⟩ : ∃ y_ : List Int, y_ = (List.replicate 14 0) := ⟨_, rfl⟩
 replace H : (if (strOfNums yz2).size + (strOfNums yz5).size ≤ 9223372036854775807 then (some ((strOfNums yz2) ++ (strOfNums yz5))) else (none)) = some r := by first | (rw [hyz5]; with_reducible exact H) | (have H2_ := (Option.bind_some _ _).symm.trans H; rw [hyz5]; with_reducible exact H2_) | (have H2_ := (Option.bind_some _ _).symm.trans H; with_reducible exact H2_) | with_reducible exact H | (rw [hyz5]; exact H) | exact H
 have Nyz5 := am hyz5
 clear hyz5
 by_cases c4 : (strOfNums yz2).size + (strOfNums yz5).size ≤ 9223372036854775807
 rotate_left
 ·rw [if_neg c4] at H
  exact absurd H (by simp)
 rw [if_pos c4] at H
 have c4b0 := eq_true c4
 have c4b1 : decide ((strOfNums yz2).size + (strOfNums yz5).size ≤ 9223372036854775807) = true := decide_eq_true c4
 try have c4b2 : (9223372036854775807 < (strOfNums yz2).size + (strOfNums yz5).size) = False := eq_false (Nat.not_lt.2 c4)
 obtain ⟨sx5, hsx5⟩ : ∃ s_ : ByteArray, ((strOfNums yz2) ++ (strOfNums yz5)) = s_ := ⟨_, rfl⟩
 replace H : (some sx5) = some r := by first | (rw [hsx5] at H; exact H) | (simp only [hsx5] at H ⊢; exact H) | exact H
 obtain rfl := Option.some.inj H
 go_enter Try.func39, Try.ntmps39
 try go_wp2
 have n0_ := am (below_drew1 HB.out)
 clear HB; have HB := n0_; clear n0_
 refine start_ (n := 9) (S := fun w' => True) (ds := []) #[false, false, false, false, false, false, false, false, false] (by kernel_rfl) rfl rfl trivial (fun hHeld => ?_); refine with_tabW u8_Label.tab1 u8_Label.bits1 (fun HT_ HW_ => ?_)
 generalize w.drew = w6 at HB hHeld ⊢
 refine pv_ 0 (some 3) HT_ ?_
 refine join_ (σ := Value × Value) 2 #[true, true, true, true, true, true, true, false, false] (fun s_ => [(4, .int .i64 tz1), (6, s_.1), (7, .string (strOfNums yz2)), (8, s_.2), (9, .string (strOfNums yz5)), (5, .int .u8 ((tz1) % 256))]) (fun s_ w' => (Kd.R (Kd.int .u8) 5 w' w.heap.size (fun k_ => some k_ ≠ (s_.2 : Value).ownBlock) s_.1 yz2) ∧ (Kd.R (Kd.int .u8) 5 w' w.heap.size (fun k_ => some k_ ≠ (s_.1 : Value).ownBlock) s_.2 yz5) ∧ (Below w.heap.size w w')) ?_ ?_
 rotate_left
 ·intro hJ1_3_4_5_6
  refine join_ (σ := Value × Value) 3 #[true, true, true, true, true, true, false, false, false] (fun s_ => [(4, .int .i64 tz1), (6, s_.1), (7, .string (strOfNums yz2)), (8, s_.2), (5, .int .u8 ((tz1) % 256))]) (fun s_ w' => (Kd.R (Kd.int .u8) 5 w' w.heap.size (fun k_ => some k_ ≠ (s_.2 : Value).ownBlock) s_.1 yz2) ∧ (Kd.R (Kd.int .u8) 5 w' w.heap.size (fun k_ => some k_ ≠ (s_.1 : Value).ownBlock) s_.2 yz5) ∧ (Below w.heap.size w w')) ?_ ?_
  rotate_left
  ·intro hJ1_3_4_5
   refine join_ (σ := Value × Value) 3 #[true, true, true, true, false, true, true, false, false] (fun s_ => [(4, .int .i64 tz1), (6, s_.1), (8, s_.2), (9, .string (strOfNums yz5)), (5, .int .u8 ((tz1) % 256))]) (fun s_ w' => (Kd.R (Kd.int .u8) 5 w' w.heap.size (fun k_ => some k_ ≠ (s_.2 : Value).ownBlock) s_.1 yz2) ∧ (Kd.R (Kd.int .u8) 5 w' w.heap.size (fun k_ => some k_ ≠ (s_.1 : Value).ownBlock) s_.2 yz5) ∧ (Below w.heap.size w w')) ?_ ?_
   rotate_left
   ·intro hJ1_3_5_6
    refine join_ (σ := Value) 4 #[true, true, true, true, true, false, false, false, false] (fun s_ => [(4, .int .i64 tz1), (6, s_), (7, .string (strOfNums yz2)), (5, .int .u8 ((tz1) % 256))]) (fun s_ w' => (Kd.R (Kd.int .u8) 5 w' w.heap.size (fun _ => True) s_ yz2) ∧ (Below w.heap.size w w')) ?_ ?_
    rotate_left
    ·intro hJ1_3_4
     refine join_ (σ := Value × Value) 4 #[true, true, true, true, false, true, false, false, false] (fun s_ => [(4, .int .i64 tz1), (6, s_.1), (8, s_.2), (5, .int .u8 ((tz1) % 256))]) (fun s_ w' => (Kd.R (Kd.int .u8) 5 w' w.heap.size (fun k_ => some k_ ≠ (s_.2 : Value).ownBlock) s_.1 yz2) ∧ (Kd.R (Kd.int .u8) 5 w' w.heap.size (fun k_ => some k_ ≠ (s_.1 : Value).ownBlock) s_.2 yz5) ∧ (Below w.heap.size w w')) ?_ ?_
     rotate_left
     ·intro hJ1_3_5
      refine join_ (σ := Value) 4 #[true, true, true, false, false, true, true, false, false] (fun s_ => [(4, .int .i64 tz1), (8, s_), (9, .string (strOfNums yz5)), (5, .int .u8 ((tz1) % 256))]) (fun s_ w' => (Kd.R (Kd.int .u8) 5 w' w.heap.size (fun _ => True) s_ yz5) ∧ (Below w.heap.size w w')) ?_ ?_
      rotate_left
      ·intro hJ1_5_6
       refine join_ (σ := Value) 5 #[true, true, true, true, false, false, false, false, false] (fun s_ => [(4, .int .i64 tz1), (6, s_), (5, .int .u8 ((tz1) % 256))]) (fun s_ w' => (Kd.R (Kd.int .u8) 5 w' w.heap.size (fun _ => True) s_ yz2) ∧ (Below w.heap.size w w')) ?_ ?_
       rotate_left
       ·intro hJ1_3
        refine join_ (σ := Value) 5 #[true, true, true, false, false, true, false, false, false] (fun s_ => [(4, .int .i64 tz1), (8, s_), (5, .int .u8 ((tz1) % 256))]) (fun s_ w' => (Kd.R (Kd.int .u8) 5 w' w.heap.size (fun _ => True) s_ yz5) ∧ (Below w.heap.size w w')) ?_ ?_
        rotate_left
        ·intro hJ1_5
         refine join_ (σ := Value) 6 #[true, false, false, false, false, true, true, false, false] (fun s_ => [(8, s_), (9, .string (strOfNums yz5))]) (fun s_ w' => (Kd.R (Kd.int .u8) 5 w' w.heap.size (fun _ => True) s_ yz5) ∧ (Below w.heap.size w w')) ?_ ?_
         rotate_left
         ·intro hJ5_6
          refine join_ (σ := Unit) 6 #[true, true, true, false, false, false, false, false, false] (fun s_ => [(4, .int .i64 tz1), (5, .int .u8 ((tz1) % 256))]) (fun s_ w' => (Below w.heap.size w w')) ?_ ?_
          rotate_left
          ·intro hJ1
           refine join_ (σ := Value) 7 #[true, false, false, false, false, true, false, false, false] (fun s_ => [(8, s_)]) (fun s_ w' => (Kd.R (Kd.int .u8) 5 w' w.heap.size (fun _ => True) s_ yz5) ∧ (Below w.heap.size w w')) ?_ ?_
           rotate_left
           ·intro hJ5
            refine two_ (i := 1) (j := 5) (Ni := some 4) (Nj := some 8) #[true, true, false, false, false, false, false, false, false] #[true, false, false, false, false, true, false, false, false] rfl rfl rfl rfl (two_of HT_.out (by kernel_rfl)) (by decide) (by decide) (fun K hK => ?_) (fun K hK => ?_)
            ·skip
             refine goes_ Try.func34 (by kernel_rfl) rfl #[.int .i64 a0, .int .i64 4] (by rfl) rfl rfl (by (try simp only [List.map_toArray, List.map_cons, List.map_nil]) <;> rfl) ?_
             with_reducible refine (u8_pick.calls a0 4 tz1 _ A2.out).mono ?_
             rintro e w' ⟨rfl, ⟨nd, rfl⟩⟩
             refine ⟨_, rfl, ?_⟩
             refine hK.out _ _ trivial (fun hHeld => ?_)
             clear hK K
             refine norm_ (by show Act.put _ (some 4) _ = _; simp only [Act.put, sa_, s0_, s1_, i64_w, i32_w]; rfl) ?_
             refine pv_ 2 (some 5) HT_ ?_
             exact norm_ (by simp only [putAll, Act.put, sa_, s0_, s1_] <;> rfl) (hJ1 () _ (pb HB))
            skip
            refine Kd.R_make_step (Kd.int .u8) _ 5 (by rfl) (N := 8) rfl 57 _ _ rfl 14 rfl rfl Try.underlying57 (.int .u8 0) 1 info5 rfl (by decide) (by omega) 0 (ok := fun _ => True) (okp := fun _ => True) rfl (fun _ hk => hk) trivial (by omega) (by omega) (Below.refl _ _) (Nat.le_refl _) ?_
            intro vz6 w7 ho8 hb hg_ hnew_
            clear hg_ hnew_
            (first | rw [← Nyz5.out] at ho8 | (simp only [Int.reduceToNat] at ho8; rw [← Nyz5.out] at ho8))
            have n0_ := am (Kd.R_lower ho8 (below_size (pb HB)))
            have n1_ := am (below_step (pb HB) hb)
            clear HB; have HOz7 := n0_; have HB := n1_; clear n0_ n1_; clear hb ho8
            refine hK.out _ _ trivial (fun hHeld => ?_)
            clear hK K
            refine norm_ (by show Act.put _ (some 8) _ = _; simp only [Act.put, sa_, s0_, s1_, i64_w, i32_w]; rfl) ?_
            exact norm_ (by simp only [putAll, Act.put, sa_, s0_, s1_] <;> rfl) (hJ5 (vz6) _ ⟨(pr HOz7), (pb HB)⟩)
           ·skip
            rintro vz6 w9 ⟨h0_, h1_⟩
            have n0_ : Aside0 (Kd.R (Kd.int .u8) 5 w9 w.heap.size (fun _ => True) vz6 yz5) := ⟨h0_⟩
            have n1_ : Aside0 (Below w.heap.size w w9) := ⟨h1_⟩
            clear HB h0_ h1_; have HOz7 := n0_; have HB := n1_; clear n0_ n1_
            have hHeld := trivial
            refine norm_ (by simp only [putAll, Act.put, List.setIfInBounds_toArray, List.set_cons_zero, List.set_cons_succ]; rfl) ?_
            refine two_ (i := 1) (j := 6) (Ni := some 4) (Nj := some 9) #[true, true, false, false, false, true, false, false, false] #[true, false, false, false, false, true, true, false, false] rfl rfl rfl rfl (two_of HT_.out (by kernel_rfl)) (by decide) (by decide) (fun K hK => ?_) (fun K hK => ?_)
            rotate_left
            ·skip
             have hcv10 := own_string (P := Try.prog) Try.underlying57 Try.underlying5 Try.underlying9 (Kd.own_of_R HOz7.out)
             refine value_ (w1 := ?_) (v := ?_) (by rfl) rfl ?_ ?_
             rotate_left 2
             ·go_simp
              constructor
              rotate_left
              ·rfl
              rfl
             clear hcv10
             refine hK.out _ _ trivial (fun hHeld => ?_)
             clear hK K
             refine norm_ (by show Act.put _ (some 9) _ = _; simp only [Act.put, sa_, s0_, s1_, i64_w, i32_w]; rfl) ?_
             exact norm_ (by simp only [putAll, Act.put, sa_, s0_, s1_] <;> rfl) (hJ5_6 (vz6) _ ⟨(pr HOz7), (pb HB)⟩)
            skip
            refine goes_ Try.func34 (by kernel_rfl) rfl #[.int .i64 a0, .int .i64 4] (by rfl) rfl rfl (by (try simp only [List.map_toArray, List.map_cons, List.map_nil]) <;> rfl) ?_
            with_reducible refine (u8_pick.calls a0 4 tz1 _ A2.out).mono ?_
            rintro e w' ⟨rfl, ⟨nd, rfl⟩⟩
            refine ⟨_, rfl, ?_⟩
            refine hK.out _ _ trivial (fun hHeld => ?_)
            clear hK K
            refine norm_ (by show Act.put _ (some 4) _ = _; simp only [Act.put, sa_, s0_, s1_, i64_w, i32_w]; rfl) ?_
            refine pv_ 2 (some 5) HT_ ?_
            exact norm_ (by simp only [putAll, Act.put, sa_, s0_, s1_] <;> rfl) (hJ1_5 (vz6) _ ⟨(pr HOz7), (pb HB)⟩)
          ·skip
           rintro _ w7 h0_
           have n0_ : Aside0 (Below w.heap.size w w7) := ⟨h0_⟩
           clear HB h0_; have HB := n0_; clear n0_
           have hHeld := trivial
           refine norm_ (by simp only [putAll, Act.put, List.setIfInBounds_toArray, List.set_cons_zero, List.set_cons_succ]; rfl) ?_
           refine two_ (i := 3) (j := 5) (Ni := some 6) (Nj := some 8) #[true, true, true, true, false, false, false, false, false] #[true, true, true, false, false, true, false, false, false] rfl rfl rfl rfl (two_of HT_.out (by kernel_rfl)) (by decide) (by decide) (fun K hK => ?_) (fun K hK => ?_)
           rotate_left
           ·skip
            refine Kd.R_make_step (Kd.int .u8) _ 5 (by rfl) (N := 8) rfl 57 _ _ rfl 14 rfl rfl Try.underlying57 (.int .u8 0) 1 info5 rfl (by decide) (by omega) 0 (ok := fun _ => True) (okp := fun _ => True) rfl (fun _ hk => hk) trivial (by omega) (by omega) (Below.refl _ _) (Nat.le_refl _) ?_
            intro vz6 w8 ho9 hb hg_ hnew_
            clear hg_ hnew_
            (first | rw [← Nyz5.out] at ho9 | (simp only [Int.reduceToNat] at ho9; rw [← Nyz5.out] at ho9))
            have n0_ := am (Kd.R_lower ho9 (below_size (pb HB)))
            have n1_ := am (below_step (pb HB) hb)
            clear HB; have HOz7 := n0_; have HB := n1_; clear n0_ n1_; clear hb ho9
            refine hK.out _ _ trivial (fun hHeld => ?_)
            clear hK K
            refine norm_ (by show Act.put _ (some 8) _ = _; simp only [Act.put, sa_, s0_, s1_, i64_w, i32_w]; rfl) ?_
            exact norm_ (by simp only [putAll, Act.put, sa_, s0_, s1_] <;> rfl) (hJ1_5 (vz6) _ ⟨(pr HOz7), (pb HB)⟩)
           skip
           refine Kd.R_lit_step (Kd.int .u8) _ 5 ?hg (N := 6) ?hd (xs := ([108, (tz1) % 256] : List Int)) (inner := [.int .u8 108, .int .u8 ((tz1) % 256)]) (ok := fun _ => True) (okp := fun _ => True) ?hr ?hp (fun _ hk => hk) trivial (Below.refl _ _) (Nat.le_refl _) (by simp) ?_; (case hd => rfl); (case hg => rfl); (case hr => first | (go_simp; done) | (go_simp; rfl)); (case hp => exact (Reps.one (show Kd.M (Kd.int .u8) _ _ _ 108 [.int .u8 108] from rfl) (Reps.one (show Kd.M (Kd.int .u8) _ _ _ ((tz1) % 256) [.int .u8 ((tz1) % 256)] from rfl) (Reps.none _ _))))
           intro vz3 w8 ho9 hb hg_ hnew_
           clear hg_ hnew_
           (first | rw [← Nyz2.out] at ho9 | (simp only [Int.reduceToNat] at ho9; rw [← Nyz2.out] at ho9))
           have n0_ := am (Kd.R_lower ho9 (below_size (pb HB)))
           have n1_ := am (below_step (pb HB) hb)
           clear HB; have HOz4 := n0_; have HB := n1_; clear n0_ n1_; clear hb ho9
           refine hK.out _ _ trivial (fun hHeld => ?_)
           clear hK K
           refine norm_ (by show Act.put _ (some 6) _ = _; simp only [Act.put, sa_, s0_, s1_, i64_w, i32_w]; rfl) ?_
           exact norm_ (by simp only [putAll, Act.put, sa_, s0_, s1_] <;> rfl) (hJ1_3 (vz3) _ ⟨(pr HOz4), (pb HB)⟩)
         ·skip
          rintro vz6 w10 ⟨h0_, h1_⟩
          have n0_ : Aside0 (Kd.R (Kd.int .u8) 5 w10 w.heap.size (fun _ => True) vz6 yz5) := ⟨h0_⟩
          have n1_ : Aside0 (Below w.heap.size w w10) := ⟨h1_⟩
          clear HB h0_ h1_; have HOz7 := n0_; have HB := n1_; clear n0_ n1_
          have hHeld := trivial
          refine norm_ (by simp only [putAll, Act.put, List.setIfInBounds_toArray, List.set_cons_zero, List.set_cons_succ]; rfl) ?_
          refine on_ 1 (some 4) HT_ rfl rfl (fun K hK => ?_)
          refine goes_ Try.func34 (by kernel_rfl) rfl #[.int .i64 a0, .int .i64 4] (by rfl) rfl rfl (by (try simp only [List.map_toArray, List.map_cons, List.map_nil]) <;> rfl) ?_
          with_reducible refine (u8_pick.calls a0 4 tz1 _ A2.out).mono ?_
          rintro e w' ⟨rfl, ⟨nd, rfl⟩⟩
          refine ⟨_, rfl, ?_⟩
          refine hK.out _ _ trivial (fun hHeld => ?_)
          clear hK K
          refine norm_ (by show Act.put _ (some 4) _ = _; simp only [Act.put, sa_, s0_, s1_, i64_w, i32_w]; rfl) ?_
          refine pv_ 2 (some 5) HT_ ?_
          exact norm_ (by simp only [putAll, Act.put, sa_, s0_, s1_] <;> rfl) (hJ1_5_6 (vz6) _ ⟨(pr HOz7), (pb HB)⟩)
        ·skip
         rintro vz6 w9 ⟨h0_, h1_⟩
         have n0_ : Aside0 (Kd.R (Kd.int .u8) 5 w9 w.heap.size (fun _ => True) vz6 yz5) := ⟨h0_⟩
         have n1_ : Aside0 (Below w.heap.size w w9) := ⟨h1_⟩
         clear HB h0_ h1_; have HOz7 := n0_; have HB := n1_; clear n0_ n1_
         have hHeld := trivial
         refine norm_ (by simp only [putAll, Act.put, List.setIfInBounds_toArray, List.set_cons_zero, List.set_cons_succ]; rfl) ?_
         refine two_ (i := 3) (j := 6) (Ni := some 6) (Nj := some 9) #[true, true, true, true, false, true, false, false, false] #[true, true, true, false, false, true, true, false, false] rfl rfl rfl rfl (two_of HT_.out (by kernel_rfl)) (by decide) (by decide) (fun K hK => ?_) (fun K hK => ?_)
         rotate_left
         ·skip
          have hcv10 := own_string (P := Try.prog) Try.underlying57 Try.underlying5 Try.underlying9 (Kd.own_of_R HOz7.out)
          refine value_ (w1 := ?_) (v := ?_) (by rfl) rfl ?_ ?_
          rotate_left 2
          ·go_simp
           constructor
           rotate_left
           ·rfl
           rfl
          clear hcv10
          refine hK.out _ _ trivial (fun hHeld => ?_)
          clear hK K
          refine norm_ (by show Act.put _ (some 9) _ = _; simp only [Act.put, sa_, s0_, s1_, i64_w, i32_w]; rfl) ?_
          exact norm_ (by simp only [putAll, Act.put, sa_, s0_, s1_] <;> rfl) (hJ1_5_6 (vz6) _ ⟨(pr HOz7), (pb HB)⟩)
         skip
         refine Kd.R_lit_step (Kd.int .u8) _ 5 ?hg (N := 6) ?hd (xs := ([108, (tz1) % 256] : List Int)) (inner := [.int .u8 108, .int .u8 ((tz1) % 256)]) (ok := fun _ => True) (okp := fun _ => True) ?hr ?hp (fun _ hk => hk) trivial (Below.refl _ _) (Nat.le_refl _) (by simp) ?_; (case hd => rfl); (case hg => rfl); (case hr => first | (go_simp; done) | (go_simp; rfl)); (case hp => exact (Reps.one (show Kd.M (Kd.int .u8) _ _ _ 108 [.int .u8 108] from rfl) (Reps.one (show Kd.M (Kd.int .u8) _ _ _ ((tz1) % 256) [.int .u8 ((tz1) % 256)] from rfl) (Reps.none _ _))))
         intro vz3 w10 ho11 hb hg_ hnew_
         clear hg_ hnew_
         (first | rw [← Nyz2.out] at ho11 | (simp only [Int.reduceToNat] at ho11; rw [← Nyz2.out] at ho11))
         have n0_ := am (Kd.R_elder' (pr HOz7) (Kd.R_base ho11) hb)
         have n1_ := am (Kd.R_lower (Kd.R_new' ho11 (Kd.R_lt (pr HOz7))) (below_size (pb HB)))
         have n2_ := am (below_step (pb HB) hb)
         clear HOz7 HB; have HOz7 := n0_; have HOz4 := n1_; have HB := n2_; clear n0_ n1_ n2_; clear hb ho11
         refine hK.out _ _ trivial (fun hHeld => ?_)
         clear hK K
         refine norm_ (by show Act.put _ (some 6) _ = _; simp only [Act.put, sa_, s0_, s1_, i64_w, i32_w]; rfl) ?_
         exact norm_ (by simp only [putAll, Act.put, sa_, s0_, s1_] <;> rfl) (hJ1_3_5 (vz3, vz6) _ ⟨(pm HOz4 (fun _ hk => hk.2)), (pm HOz7 (fun _ hk => hk.2)), (pb HB)⟩)
       ·skip
        rintro vz3 w9 ⟨h0_, h1_⟩
        have n0_ : Aside0 (Kd.R (Kd.int .u8) 5 w9 w.heap.size (fun _ => True) vz3 yz2) := ⟨h0_⟩
        have n1_ : Aside0 (Below w.heap.size w w9) := ⟨h1_⟩
        clear HB h0_ h1_; have HOz4 := n0_; have HB := n1_; clear n0_ n1_
        have hHeld := trivial
        refine norm_ (by simp only [putAll, Act.put, List.setIfInBounds_toArray, List.set_cons_zero, List.set_cons_succ]; rfl) ?_
        refine two_ (i := 4) (j := 5) (Ni := some 7) (Nj := some 8) #[true, true, true, true, true, false, false, false, false] #[true, true, true, true, false, true, false, false, false] rfl rfl rfl rfl (two_of HT_.out (by kernel_rfl)) (by decide) (by decide) (fun K hK => ?_) (fun K hK => ?_)
        ·skip
         have hcv10 := own_string (P := Try.prog) Try.underlying57 Try.underlying5 Try.underlying9 (Kd.own_of_R HOz4.out)
         refine value_ (w1 := ?_) (v := ?_) (by rfl) rfl ?_ ?_
         rotate_left 2
         ·go_simp
          constructor
          rotate_left
          ·rfl
          rfl
         clear hcv10
         refine hK.out _ _ trivial (fun hHeld => ?_)
         clear hK K
         refine norm_ (by show Act.put _ (some 7) _ = _; simp only [Act.put, sa_, s0_, s1_, i64_w, i32_w]; rfl) ?_
         exact norm_ (by simp only [putAll, Act.put, sa_, s0_, s1_] <;> rfl) (hJ1_3_4 (vz3) _ ⟨(pr HOz4), (pb HB)⟩)
        skip
        refine Kd.R_make_step (Kd.int .u8) _ 5 (by rfl) (N := 8) rfl 57 _ _ rfl 14 rfl rfl Try.underlying57 (.int .u8 0) 1 info5 rfl (by decide) (by omega) 0 (ok := fun _ => True) (okp := fun _ => True) rfl (fun _ hk => hk) trivial (by omega) (by omega) (Below.refl _ _) (Nat.le_refl _) ?_
        intro vz6 w10 ho11 hb hg_ hnew_
        clear hg_ hnew_
        (first | rw [← Nyz5.out] at ho11 | (simp only [Int.reduceToNat] at ho11; rw [← Nyz5.out] at ho11))
        have n0_ := am (Kd.R_elder' (pr HOz4) (Kd.R_base ho11) hb)
        have n1_ := am (Kd.R_lower (Kd.R_new' ho11 (Kd.R_lt (pr HOz4))) (below_size (pb HB)))
        have n2_ := am (below_step (pb HB) hb)
        clear HOz4 HB; have HOz4 := n0_; have HOz7 := n1_; have HB := n2_; clear n0_ n1_ n2_; clear hb ho11
        refine hK.out _ _ trivial (fun hHeld => ?_)
        clear hK K
        refine norm_ (by show Act.put _ (some 8) _ = _; simp only [Act.put, sa_, s0_, s1_, i64_w, i32_w]; rfl) ?_
        exact norm_ (by simp only [putAll, Act.put, sa_, s0_, s1_] <;> rfl) (hJ1_3_5 (vz3, vz6) _ ⟨(pm HOz4 (fun _ hk => hk.2)), (pm HOz7 (fun _ hk => hk.2)), (pb HB)⟩)
      ·skip
       rintro vz6 w10 ⟨h0_, h1_⟩
       have n0_ : Aside0 (Kd.R (Kd.int .u8) 5 w10 w.heap.size (fun _ => True) vz6 yz5) := ⟨h0_⟩
       have n1_ : Aside0 (Below w.heap.size w w10) := ⟨h1_⟩
       clear HB h0_ h1_; have HOz7 := n0_; have HB := n1_; clear n0_ n1_
       have hHeld := trivial
       refine norm_ (by simp only [putAll, Act.put, List.setIfInBounds_toArray, List.set_cons_zero, List.set_cons_succ]; rfl) ?_
       refine on_ 3 (some 6) HT_ rfl rfl (fun K hK => ?_)
       refine Kd.R_lit_step (Kd.int .u8) _ 5 ?hg (N := 6) ?hd (xs := ([108, (tz1) % 256] : List Int)) (inner := [.int .u8 108, .int .u8 ((tz1) % 256)]) (ok := fun _ => True) (okp := fun _ => True) ?hr ?hp (fun _ hk => hk) trivial (Below.refl _ _) (Nat.le_refl _) (by simp) ?_; (case hd => rfl); (case hg => rfl); (case hr => first | (go_simp; done) | (go_simp; rfl)); (case hp => exact (Reps.one (show Kd.M (Kd.int .u8) _ _ _ 108 [.int .u8 108] from rfl) (Reps.one (show Kd.M (Kd.int .u8) _ _ _ ((tz1) % 256) [.int .u8 ((tz1) % 256)] from rfl) (Reps.none _ _))))
       intro vz3 w11 ho12 hb hg_ hnew_
       clear hg_ hnew_
       (first | rw [← Nyz2.out] at ho12 | (simp only [Int.reduceToNat] at ho12; rw [← Nyz2.out] at ho12))
       have n0_ := am (Kd.R_elder' (pr HOz7) (Kd.R_base ho12) hb)
       have n1_ := am (Kd.R_lower (Kd.R_new' ho12 (Kd.R_lt (pr HOz7))) (below_size (pb HB)))
       have n2_ := am (below_step (pb HB) hb)
       clear HOz7 HB; have HOz7 := n0_; have HOz4 := n1_; have HB := n2_; clear n0_ n1_ n2_; clear hb ho12
       refine hK.out _ _ trivial (fun hHeld => ?_)
       clear hK K
       refine norm_ (by show Act.put _ (some 6) _ = _; simp only [Act.put, sa_, s0_, s1_, i64_w, i32_w]; rfl) ?_
       exact norm_ (by simp only [putAll, Act.put, sa_, s0_, s1_] <;> rfl) (hJ1_3_5_6 (vz3, vz6) _ ⟨(pm HOz4 (fun _ hk => hk.2)), (pm HOz7 (fun _ hk => hk.2)), (pb HB)⟩)
     ·skip
      rintro ⟨vz3, vz6⟩ w11 ⟨h0_, h1_, h2_⟩
      have n0_ : Aside0 (Kd.R (Kd.int .u8) 5 w11 w.heap.size (fun k_ => some k_ ≠ (vz6 : Value).ownBlock) vz3 yz2) := ⟨h0_⟩
      have n1_ : Aside0 (Kd.R (Kd.int .u8) 5 w11 w.heap.size (fun k_ => some k_ ≠ (vz3 : Value).ownBlock) vz6 yz5) := ⟨h1_⟩
      have n2_ : Aside0 (Below w.heap.size w w11) := ⟨h2_⟩
      clear HB h0_ h1_ h2_; have HOz4 := n0_; have HOz7 := n1_; have HB := n2_; clear n0_ n1_ n2_
      have hHeld := trivial
      refine norm_ (by simp only [putAll, Act.put, List.setIfInBounds_toArray, List.set_cons_zero, List.set_cons_succ]; rfl) ?_
      refine two_ (i := 4) (j := 6) (Ni := some 7) (Nj := some 9) #[true, true, true, true, true, true, false, false, false] #[true, true, true, true, false, true, true, false, false] rfl rfl rfl rfl (two_of HT_.out (by kernel_rfl)) (by decide) (by decide) (fun K hK => ?_) (fun K hK => ?_)
      rotate_left
      ·skip
       have hcv12 := own_string (P := Try.prog) Try.underlying57 Try.underlying5 Try.underlying9 (Kd.own_of_R HOz7.out)
       refine value_ (w1 := ?_) (v := ?_) (by rfl) rfl ?_ ?_
       rotate_left 2
       ·go_simp
        constructor
        rotate_left
        ·rfl
        rfl
       clear hcv12
       refine hK.out _ _ trivial (fun hHeld => ?_)
       clear hK K
       refine norm_ (by show Act.put _ (some 9) _ = _; simp only [Act.put, sa_, s0_, s1_, i64_w, i32_w]; rfl) ?_
       exact norm_ (by simp only [putAll, Act.put, sa_, s0_, s1_] <;> rfl) (hJ1_3_5_6 (vz3, vz6) _ ⟨(pr HOz4), (pr HOz7), (pb HB)⟩)
      skip
      have hcv12 := own_string (P := Try.prog) Try.underlying57 Try.underlying5 Try.underlying9 (Kd.own_of_R HOz4.out)
      refine value_ (w1 := ?_) (v := ?_) (by rfl) rfl ?_ ?_
      rotate_left 2
      ·go_simp
       constructor
       rotate_left
       ·rfl
       rfl
      clear hcv12
      refine hK.out _ _ trivial (fun hHeld => ?_)
      clear hK K
      refine norm_ (by show Act.put _ (some 7) _ = _; simp only [Act.put, sa_, s0_, s1_, i64_w, i32_w]; rfl) ?_
      exact norm_ (by simp only [putAll, Act.put, sa_, s0_, s1_] <;> rfl) (hJ1_3_4_5 (vz3, vz6) _ ⟨(pr HOz4), (pr HOz7), (pb HB)⟩)
    ·skip
     rintro vz3 w10 ⟨h0_, h1_⟩
     have n0_ : Aside0 (Kd.R (Kd.int .u8) 5 w10 w.heap.size (fun _ => True) vz3 yz2) := ⟨h0_⟩
     have n1_ : Aside0 (Below w.heap.size w w10) := ⟨h1_⟩
     clear HB h0_ h1_; have HOz4 := n0_; have HB := n1_; clear n0_ n1_
     have hHeld := trivial
     refine norm_ (by simp only [putAll, Act.put, List.setIfInBounds_toArray, List.set_cons_zero, List.set_cons_succ]; rfl) ?_
     refine on_ 5 (some 8) HT_ rfl rfl (fun K hK => ?_)
     refine Kd.R_make_step (Kd.int .u8) _ 5 (by rfl) (N := 8) rfl 57 _ _ rfl 14 rfl rfl Try.underlying57 (.int .u8 0) 1 info5 rfl (by decide) (by omega) 0 (ok := fun _ => True) (okp := fun _ => True) rfl (fun _ hk => hk) trivial (by omega) (by omega) (Below.refl _ _) (Nat.le_refl _) ?_
     intro vz6 w11 ho12 hb hg_ hnew_
     clear hg_ hnew_
     (first | rw [← Nyz5.out] at ho12 | (simp only [Int.reduceToNat] at ho12; rw [← Nyz5.out] at ho12))
     have n0_ := am (Kd.R_elder' (pr HOz4) (Kd.R_base ho12) hb)
     have n1_ := am (Kd.R_lower (Kd.R_new' ho12 (Kd.R_lt (pr HOz4))) (below_size (pb HB)))
     have n2_ := am (below_step (pb HB) hb)
     clear HOz4 HB; have HOz4 := n0_; have HOz7 := n1_; have HB := n2_; clear n0_ n1_ n2_; clear hb ho12
     refine hK.out _ _ trivial (fun hHeld => ?_)
     clear hK K
     refine norm_ (by show Act.put _ (some 8) _ = _; simp only [Act.put, sa_, s0_, s1_, i64_w, i32_w]; rfl) ?_
     exact norm_ (by simp only [putAll, Act.put, sa_, s0_, s1_] <;> rfl) (hJ1_3_4_5 (vz3, vz6) _ ⟨(pm HOz4 (fun _ hk => hk.2)), (pm HOz7 (fun _ hk => hk.2)), (pb HB)⟩)
   ·skip
    rintro ⟨vz3, vz6⟩ w12 ⟨h0_, h1_, h2_⟩
    have n0_ : Aside0 (Kd.R (Kd.int .u8) 5 w12 w.heap.size (fun k_ => some k_ ≠ (vz6 : Value).ownBlock) vz3 yz2) := ⟨h0_⟩
    have n1_ : Aside0 (Kd.R (Kd.int .u8) 5 w12 w.heap.size (fun k_ => some k_ ≠ (vz3 : Value).ownBlock) vz6 yz5) := ⟨h1_⟩
    have n2_ : Aside0 (Below w.heap.size w w12) := ⟨h2_⟩
    clear HB h0_ h1_ h2_; have HOz4 := n0_; have HOz7 := n1_; have HB := n2_; clear n0_ n1_ n2_
    have hHeld := trivial
    refine norm_ (by simp only [putAll, Act.put, List.setIfInBounds_toArray, List.set_cons_zero, List.set_cons_succ]; rfl) ?_
    refine on_ 4 (some 7) HT_ rfl rfl (fun K hK => ?_)
    have hcv13 := own_string (P := Try.prog) Try.underlying57 Try.underlying5 Try.underlying9 (Kd.own_of_R HOz4.out)
    refine value_ (w1 := ?_) (v := ?_) (by rfl) rfl ?_ ?_
    rotate_left 2
    ·go_simp
     constructor
     rotate_left
     ·rfl
     rfl
    clear hcv13
    refine hK.out _ _ trivial (fun hHeld => ?_)
    clear hK K
    refine norm_ (by show Act.put _ (some 7) _ = _; simp only [Act.put, sa_, s0_, s1_, i64_w, i32_w]; rfl) ?_
    exact norm_ (by simp only [putAll, Act.put, sa_, s0_, s1_] <;> rfl) (hJ1_3_4_5_6 (vz3, vz6) _ ⟨(pr HOz4), (pr HOz7), (pb HB)⟩)
  ·skip
   rintro ⟨vz3, vz6⟩ w12 ⟨h0_, h1_, h2_⟩
   have n0_ : Aside0 (Kd.R (Kd.int .u8) 5 w12 w.heap.size (fun k_ => some k_ ≠ (vz6 : Value).ownBlock) vz3 yz2) := ⟨h0_⟩
   have n1_ : Aside0 (Kd.R (Kd.int .u8) 5 w12 w.heap.size (fun k_ => some k_ ≠ (vz3 : Value).ownBlock) vz6 yz5) := ⟨h1_⟩
   have n2_ : Aside0 (Below w.heap.size w w12) := ⟨h2_⟩
   clear HB h0_ h1_ h2_; have HOz4 := n0_; have HOz7 := n1_; have HB := n2_; clear n0_ n1_ n2_
   have hHeld := trivial
   refine norm_ (by simp only [putAll, Act.put, List.setIfInBounds_toArray, List.set_cons_zero, List.set_cons_succ]; rfl) ?_
   refine on_ 6 (some 9) HT_ rfl rfl (fun K hK => ?_)
   have hcv13 := own_string (P := Try.prog) Try.underlying57 Try.underlying5 Try.underlying9 (Kd.own_of_R HOz7.out)
   refine value_ (w1 := ?_) (v := ?_) (by rfl) rfl ?_ ?_
   rotate_left 2
   ·go_simp
    constructor
    rotate_left
    ·rfl
    rfl
   clear hcv13
   refine hK.out _ _ trivial (fun hHeld => ?_)
   clear hK K
   refine norm_ (by show Act.put _ (some 9) _ = _; simp only [Act.put, sa_, s0_, s1_, i64_w, i32_w]; rfl) ?_
   exact norm_ (by simp only [putAll, Act.put, sa_, s0_, s1_] <;> rfl) (hJ1_3_4_5_6 (vz3, vz6) _ ⟨(pr HOz4), (pr HOz7), (pb HB)⟩)
 rintro ⟨vz3, vz6⟩ w13 ⟨h0_, h1_, h2_⟩
 have n0_ : Aside0 (Kd.R (Kd.int .u8) 5 w13 w.heap.size (fun k_ => some k_ ≠ (vz6 : Value).ownBlock) vz3 yz2) := ⟨h0_⟩
 have n1_ : Aside0 (Kd.R (Kd.int .u8) 5 w13 w.heap.size (fun k_ => some k_ ≠ (vz3 : Value).ownBlock) vz6 yz5) := ⟨h1_⟩
 have n2_ : Aside0 (Below w.heap.size w w13) := ⟨h2_⟩
 clear HB h0_ h1_ h2_; have HOz4 := n0_; have HOz7 := n1_; have HB := n2_; clear n0_ n1_ n2_
 have hHeld := trivial
 refine norm_ (by simp only [putAll, Act.put, List.setIfInBounds_toArray, List.set_cons_zero, List.set_cons_succ]; rfl) ?_
 refine pv_ 7 (some 10) HT_ ?_
 refine pv_ 8 (some 2) HT_ ?_
 refine done_ (done_of HT_.out (by kernel_rfl)) ?_
 try go_wp2
 go_ret
 exact ⟨by first | rfl | (simp [errW_none, errW_some] <;> rfl) | (simp only [← hsx5]; first | rfl | (simp [errW_none, errW_some] <;> rfl)) | (simp [*, errW_none, errW_some] <;> rfl), sC_ HB⟩
end Go.Proofs.Ytmkncddbecmlpaa.Pr
end
section
namespace Go.Proofs.Ytmkncddbecmlpaa.Pr
open Go.Proofs.Ytmkncddbecmlpaa.Sq Go.RowKit Go.Proofs.YtmkncddbecmlpaaW.PrintWords Go.Proofs.YtmkncddbecmlpaaW.PrintLast Go.Proofs.YtmkncddbecmlpaaW.PrintMore
attribute [local go_sem] max2_int min2_int max_two min_two max_three min_three max_four min_four
set_option linter.unusedVariables false
set_option linter.unusedSimpArgs false
def u8_Text.f (a0 : Int) : Option (ByteArray) := (u8_pick.f a0 5).bind fun tz1 => ((some (([(tz1) % 256] : List Int) : List Int)).bind fun yz2 => (if 23 ≤ 281474976710656 then ((some (List.replicate 23 0 : List Int)).bind fun yz5 => (if (strOfNums yz2).size + (strOfNums yz5).size ≤ 9223372036854775807 then (some ((strOfNums yz2) ++ (strOfNums yz5))) else (none))) else (none)))
def u8_Text.T1 : Bool × List (List Nat × List Nat) := (true, [([], []), ([0], [0]), ([1], [1]), ([2], [2]), ([3], [3]), ([], []), ([5], [5]), ([4, 6], [4, 6]), ([7, 1, 0, 1, 2, 3, 4, 5, 6, 7], [7])])
def u8_Text.B1 : List Nat := [0, 1, 3, 7, 15, 0, 32, 127, 255]
theorem u8_Text.tab1 : rtab .any (opsOf Try.f40 1) = u8_Text.T1 := by kernel_rfl
theorem u8_Text.bits1 : waitsOk u8_Text.T1.2 u8_Text.B1 = true := by kernel_rfl
set_option maxHeartbeats 8000000 in
set_option maxRecDepth 100000 in
theorem u8_Text.calls (a0 : Int) (r : ByteArray) (w : World) (h : u8_Text.f a0 = some r) :
  Calls Try.prog 40 #[.int .i64 a0] w fun e w' => e = .returned (.string r) ∧ Below w.heap.size w w' := by
 have HB := am (Below.refl w.heap.size w)
 have H : ((u8_pick.f a0 5).bind fun tz1 => ((some (([(tz1) % 256] : List Int) : List Int)).bind fun yz2 => (if 23 ≤ 281474976710656 then ((some (List.replicate 23 0 : List Int)).bind fun yz5 => (if (strOfNums yz2).size + (strOfNums yz5).size ≤ 9223372036854775807 then (some ((strOfNums yz2) ++ (strOfNums yz5))) else (none))) else (none)))) = some r := h
 clear h
 replace H := ob_ H
 obtain ⟨tz1, A20, H⟩ := H
 replace H : ((some (([(tz1) % 256] : List Int) : List Int)).bind fun yz2 => (if 23 ≤ 281474976710656 then ((some (List.replicate 23 0 : List Int)).bind fun yz5 => (if (strOfNums yz2).size + (strOfNums yz5).size ≤ 9223372036854775807 then (some ((strOfNums yz2) ++ (strOfNums yz5))) else (none))) else (none))) = some r := H
 have A2 := Aside0.mk A20
 clear A20
 obtain ⟨yz2, hyz2⟩ : ∃ y_ : List Int, y_ = (([(tz1) % 256] : List Int)) := ⟨_, rfl⟩
 replace H : (if 23 ≤ 281474976710656 then ((some (List.replicate 23 0 : List Int)).bind fun yz5 => (if (strOfNums yz2).size + (strOfNums yz5).size ≤ 9223372036854775807 then (some ((strOfNums yz2) ++ (strOfNums yz5))) else (none))) else (none)) = some r := by first | (rw [hyz2]; with_reducible exact H) | (have H2_ := (Option.bind_some _ _).symm.trans H; rw [hyz2]; with_reducible exact H2_) | (have H2_ := (Option.bind_some _ _).symm.trans H; with_reducible exact H2_) | with_reducible exact H | (rw [hyz2]; exact H) | exact H
 have Nyz2 := am hyz2
 clear hyz2
 by_cases c3 : 23 ≤ 281474976710656
 rotate_left
 ·rw [if_neg c3] at H
  exact absurd H (by simp)
 rw [if_pos c3] at H
 have c3b0 := eq_true c3
 have c3b1 : decide (23 ≤ 281474976710656) = true := decide_eq_true c3
 clear c3
 obtain ⟨yz5, hyz5⟩ : ∃ y_ : List Int, y_ = (List.replicate 23 0) := ⟨_, rfl⟩
 replace H : (if (strOfNums yz2).size + (strOfNums yz5).size ≤ 9223372036854775807 then (some ((strOfNums yz2) ++ (strOfNums yz5))) else (none)) = some r := by first | (rw [hyz5]; with_reducible exact H) | (have H2_ := (Option.bind_some _ _).symm.trans H; rw [hyz5]; with_reducible exact H2_) | (have H2_ := (Option.bind_some _ _).symm.trans H; with_reducible exact H2_) | with_reducible exact H | (rw [hyz5]; exact H) | exact H
 have Nyz5 := am hyz5
 clear hyz5
 by_cases c4 : (strOfNums yz2).size + (strOfNums yz5).size ≤ 9223372036854775807
 rotate_left
 ·rw [if_neg c4] at H
  exact absurd H (by simp)
 rw [if_pos c4] at H
 have c4b0 := eq_true c4
 have c4b1 : decide ((strOfNums yz2).size + (strOfNums yz5).size ≤ 9223372036854775807) = true := decide_eq_true c4
 try have c4b2 : (9223372036854775807 < (strOfNums yz2).size + (strOfNums yz5).size) = False := eq_false (Nat.not_lt.2 c4)
 obtain ⟨sx5, hsx5⟩ : ∃ s_ : ByteArray, ((strOfNums yz2) ++ (strOfNums yz5)) = s_ := ⟨_, rfl⟩
 replace H : (some sx5) = some r := by first | (rw [hsx5] at H; exact H) | (simp only [hsx5] at H ⊢; exact H) | exact H
 obtain rfl := Option.some.inj H
 go_enter Try.func40, Try.ntmps40
 try go_wp2
 have n0_ := am (below_drew1 HB.out)
 clear HB; have HB := n0_; clear n0_
 refine start_ (n := 9) (S := fun w' => True) (ds := []) #[false, false, false, false, false, false, false, false, false] (by kernel_rfl) rfl rfl trivial (fun hHeld => ?_); refine with_tabW u8_Text.tab1 u8_Text.bits1 (fun HT_ HW_ => ?_)
 generalize w.drew = w6 at HB hHeld ⊢
 refine pv_ 0 (some 3) HT_ ?_
 refine join_ (σ := Value × Value) 2 #[true, true, true, true, true, true, true, false, false] (fun s_ => [(4, .int .i64 tz1), (6, s_.1), (7, .string (strOfNums yz2)), (8, s_.2), (9, .string (strOfNums yz5)), (5, .int .u8 ((tz1) % 256))]) (fun s_ w' => (Kd.R (Kd.int .u8) 5 w' w.heap.size (fun k_ => some k_ ≠ (s_.2 : Value).ownBlock) s_.1 yz2) ∧ (Kd.R (Kd.int .u8) 5 w' w.heap.size (fun k_ => some k_ ≠ (s_.1 : Value).ownBlock) s_.2 yz5) ∧ (Below w.heap.size w w')) ?_ ?_
 rotate_left
 ·intro hJ1_3_4_5_6
  refine join_ (σ := Value × Value) 3 #[true, true, true, true, true, true, false, false, false] (fun s_ => [(4, .int .i64 tz1), (6, s_.1), (7, .string (strOfNums yz2)), (8, s_.2), (5, .int .u8 ((tz1) % 256))]) (fun s_ w' => (Kd.R (Kd.int .u8) 5 w' w.heap.size (fun k_ => some k_ ≠ (s_.2 : Value).ownBlock) s_.1 yz2) ∧ (Kd.R (Kd.int .u8) 5 w' w.heap.size (fun k_ => some k_ ≠ (s_.1 : Value).ownBlock) s_.2 yz5) ∧ (Below w.heap.size w w')) ?_ ?_
  rotate_left
  ·intro hJ1_3_4_5
   refine join_ (σ := Value × Value) 3 #[true, true, true, true, false, true, true, false, false] (fun s_ => [(4, .int .i64 tz1), (6, s_.1), (8, s_.2), (9, .string (strOfNums yz5)), (5, .int .u8 ((tz1) % 256))]) (fun s_ w' => (Kd.R (Kd.int .u8) 5 w' w.heap.size (fun k_ => some k_ ≠ (s_.2 : Value).ownBlock) s_.1 yz2) ∧ (Kd.R (Kd.int .u8) 5 w' w.heap.size (fun k_ => some k_ ≠ (s_.1 : Value).ownBlock) s_.2 yz5) ∧ (Below w.heap.size w w')) ?_ ?_
   rotate_left
   ·intro hJ1_3_5_6
    refine join_ (σ := Value) 4 #[true, true, true, true, true, false, false, false, false] (fun s_ => [(4, .int .i64 tz1), (6, s_), (7, .string (strOfNums yz2)), (5, .int .u8 ((tz1) % 256))]) (fun s_ w' => (Kd.R (Kd.int .u8) 5 w' w.heap.size (fun _ => True) s_ yz2) ∧ (Below w.heap.size w w')) ?_ ?_
    rotate_left
    ·intro hJ1_3_4
     refine join_ (σ := Value × Value) 4 #[true, true, true, true, false, true, false, false, false] (fun s_ => [(4, .int .i64 tz1), (6, s_.1), (8, s_.2), (5, .int .u8 ((tz1) % 256))]) (fun s_ w' => (Kd.R (Kd.int .u8) 5 w' w.heap.size (fun k_ => some k_ ≠ (s_.2 : Value).ownBlock) s_.1 yz2) ∧ (Kd.R (Kd.int .u8) 5 w' w.heap.size (fun k_ => some k_ ≠ (s_.1 : Value).ownBlock) s_.2 yz5) ∧ (Below w.heap.size w w')) ?_ ?_
     rotate_left
     ·intro hJ1_3_5
      refine join_ (σ := Value) 4 #[true, true, true, false, false, true, true, false, false] (fun s_ => [(4, .int .i64 tz1), (8, s_), (9, .string (strOfNums yz5)), (5, .int .u8 ((tz1) % 256))]) (fun s_ w' => (Kd.R (Kd.int .u8) 5 w' w.heap.size (fun _ => True) s_ yz5) ∧ (Below w.heap.size w w')) ?_ ?_
      rotate_left
      ·intro hJ1_5_6
       refine join_ (σ := Value) 5 #[true, true, true, true, false, false, false, false, false] (fun s_ => [(4, .int .i64 tz1), (6, s_), (5, .int .u8 ((tz1) % 256))]) (fun s_ w' => (Kd.R (Kd.int .u8) 5 w' w.heap.size (fun _ => True) s_ yz2) ∧ (Below w.heap.size w w')) ?_ ?_
       rotate_left
       ·intro hJ1_3
        refine join_ (σ := Value) 5 #[true, true, true, false, false, true, false, false, false] (fun s_ => [(4, .int .i64 tz1), (8, s_), (5, .int .u8 ((tz1) % 256))]) (fun s_ w' => (Kd.R (Kd.int .u8) 5 w' w.heap.size (fun _ => True) s_ yz5) ∧ (Below w.heap.size w w')) ?_ ?_
        rotate_left
        ·intro hJ1_5
         refine join_ (σ := Value) 6 #[true, false, false, false, false, true, true, false, false] (fun s_ => [(8, s_), (9, .string (strOfNums yz5))]) (fun s_ w' => (Kd.R (Kd.int .u8) 5 w' w.heap.size (fun _ => True) s_ yz5) ∧ (Below w.heap.size w w')) ?_ ?_
         rotate_left
         ·intro hJ5_6
          refine join_ (σ := Unit) 6 #[true, true, true, false, false, false, false, false, false] (fun s_ => [(4, .int .i64 tz1), (5, .int .u8 ((tz1) % 256))]) (fun s_ w' => (Below w.heap.size w w')) ?_ ?_
          rotate_left
          ·intro hJ1
           refine join_ (σ := Value) 7 #[true, false, false, false, false, true, false, false, false] (fun s_ => [(8, s_)]) (fun s_ w' => (Kd.R (Kd.int .u8) 5 w' w.heap.size (fun _ => True) s_ yz5) ∧ (Below w.heap.size w w')) ?_ ?_
           rotate_left
           ·intro hJ5
            refine two_ (i := 1) (j := 5) (Ni := some 4) (Nj := some 8) #[true, true, false, false, false, false, false, false, false] #[true, false, false, false, false, true, false, false, false] rfl rfl rfl rfl (two_of HT_.out (by kernel_rfl)) (by decide) (by decide) (fun K hK => ?_) (fun K hK => ?_)
            ·skip
             refine goes_ Try.func34 (by kernel_rfl) rfl #[.int .i64 a0, .int .i64 5] (by rfl) rfl rfl (by (try simp only [List.map_toArray, List.map_cons, List.map_nil]) <;> rfl) ?_
             with_reducible refine (u8_pick.calls a0 5 tz1 _ A2.out).mono ?_
             rintro e w' ⟨rfl, ⟨nd, rfl⟩⟩
             refine ⟨_, rfl, ?_⟩
             refine hK.out _ _ trivial (fun hHeld => ?_)
             clear hK K
             refine norm_ (by show Act.put _ (some 4) _ = _; simp only [Act.put, sa_, s0_, s1_, i64_w, i32_w]; rfl) ?_
             refine pv_ 2 (some 5) HT_ ?_
             exact norm_ (by simp only [putAll, Act.put, sa_, s0_, s1_] <;> rfl) (hJ1 () _ (pb HB))
            skip
            refine Kd.R_make_step (Kd.int .u8) _ 5 (by rfl) (N := 8) rfl 57 _ _ rfl 23 rfl rfl Try.underlying57 (.int .u8 0) 1 info5 rfl (by decide) (by omega) 0 (ok := fun _ => True) (okp := fun _ => True) rfl (fun _ hk => hk) trivial (by omega) (by omega) (Below.refl _ _) (Nat.le_refl _) ?_
            intro vz6 w7 ho8 hb hg_ hnew_
            clear hg_ hnew_
            (first | rw [← Nyz5.out] at ho8 | (simp only [Int.reduceToNat] at ho8; rw [← Nyz5.out] at ho8))
            have n0_ := am (Kd.R_lower ho8 (below_size (pb HB)))
            have n1_ := am (below_step (pb HB) hb)
            clear HB; have HOz7 := n0_; have HB := n1_; clear n0_ n1_; clear hb ho8
            refine hK.out _ _ trivial (fun hHeld => ?_)
            clear hK K
            refine norm_ (by show Act.put _ (some 8) _ = _; simp only [Act.put, sa_, s0_, s1_, i64_w, i32_w]; rfl) ?_
            exact norm_ (by simp only [putAll, Act.put, sa_, s0_, s1_] <;> rfl) (hJ5 (vz6) _ ⟨(pr HOz7), (pb HB)⟩)
           ·skip
            rintro vz6 w9 ⟨h0_, h1_⟩
            have n0_ : Aside0 (Kd.R (Kd.int .u8) 5 w9 w.heap.size (fun _ => True) vz6 yz5) := ⟨h0_⟩
            have n1_ : Aside0 (Below w.heap.size w w9) := ⟨h1_⟩
            clear HB h0_ h1_; have HOz7 := n0_; have HB := n1_; clear n0_ n1_
            have hHeld := trivial
            refine norm_ (by simp only [putAll, Act.put, List.setIfInBounds_toArray, List.set_cons_zero, List.set_cons_succ]; rfl) ?_
            refine two_ (i := 1) (j := 6) (Ni := some 4) (Nj := some 9) #[true, true, false, false, false, true, false, false, false] #[true, false, false, false, false, true, true, false, false] rfl rfl rfl rfl (two_of HT_.out (by kernel_rfl)) (by decide) (by decide) (fun K hK => ?_) (fun K hK => ?_)
            rotate_left
            ·skip
             have hcv10 := own_string (P := Try.prog) Try.underlying57 Try.underlying5 Try.underlying9 (Kd.own_of_R HOz7.out)
             refine value_ (w1 := ?_) (v := ?_) (by rfl) rfl ?_ ?_
             rotate_left 2
             ·go_simp
              constructor
              rotate_left
              ·rfl
              rfl
             clear hcv10
             refine hK.out _ _ trivial (fun hHeld => ?_)
             clear hK K
             refine norm_ (by show Act.put _ (some 9) _ = _; simp only [Act.put, sa_, s0_, s1_, i64_w, i32_w]; rfl) ?_
             exact norm_ (by simp only [putAll, Act.put, sa_, s0_, s1_] <;> rfl) (hJ5_6 (vz6) _ ⟨(pr HOz7), (pb HB)⟩)
            skip
            refine goes_ Try.func34 (by kernel_rfl) rfl #[.int .i64 a0, .int .i64 5] (by rfl) rfl rfl (by (try simp only [List.map_toArray, List.map_cons, List.map_nil]) <;> rfl) ?_
            with_reducible refine (u8_pick.calls a0 5 tz1 _ A2.out).mono ?_
            rintro e w' ⟨rfl, ⟨nd, rfl⟩⟩
            refine ⟨_, rfl, ?_⟩
            refine hK.out _ _ trivial (fun hHeld => ?_)
            clear hK K
            refine norm_ (by show Act.put _ (some 4) _ = _; simp only [Act.put, sa_, s0_, s1_, i64_w, i32_w]; rfl) ?_
            refine pv_ 2 (some 5) HT_ ?_
            exact norm_ (by simp only [putAll, Act.put, sa_, s0_, s1_] <;> rfl) (hJ1_5 (vz6) _ ⟨(pr HOz7), (pb HB)⟩)
          ·skip
           rintro _ w7 h0_
           have n0_ : Aside0 (Below w.heap.size w w7) := ⟨h0_⟩
           clear HB h0_; have HB := n0_; clear n0_
           have hHeld := trivial
           refine norm_ (by simp only [putAll, Act.put, List.setIfInBounds_toArray, List.set_cons_zero, List.set_cons_succ]; rfl) ?_
           refine two_ (i := 3) (j := 5) (Ni := some 6) (Nj := some 8) #[true, true, true, true, false, false, false, false, false] #[true, true, true, false, false, true, false, false, false] rfl rfl rfl rfl (two_of HT_.out (by kernel_rfl)) (by decide) (by decide) (fun K hK => ?_) (fun K hK => ?_)
           rotate_left
           ·skip
            refine Kd.R_make_step (Kd.int .u8) _ 5 (by rfl) (N := 8) rfl 57 _ _ rfl 23 rfl rfl Try.underlying57 (.int .u8 0) 1 info5 rfl (by decide) (by omega) 0 (ok := fun _ => True) (okp := fun _ => True) rfl (fun _ hk => hk) trivial (by omega) (by omega) (Below.refl _ _) (Nat.le_refl _) ?_
            intro vz6 w8 ho9 hb hg_ hnew_
            clear hg_ hnew_
            (first | rw [← Nyz5.out] at ho9 | (simp only [Int.reduceToNat] at ho9; rw [← Nyz5.out] at ho9))
            have n0_ := am (Kd.R_lower ho9 (below_size (pb HB)))
            have n1_ := am (below_step (pb HB) hb)
            clear HB; have HOz7 := n0_; have HB := n1_; clear n0_ n1_; clear hb ho9
            refine hK.out _ _ trivial (fun hHeld => ?_)
            clear hK K
            refine norm_ (by show Act.put _ (some 8) _ = _; simp only [Act.put, sa_, s0_, s1_, i64_w, i32_w]; rfl) ?_
            exact norm_ (by simp only [putAll, Act.put, sa_, s0_, s1_] <;> rfl) (hJ1_5 (vz6) _ ⟨(pr HOz7), (pb HB)⟩)
           skip
           refine Kd.R_lit_step (Kd.int .u8) _ 5 ?hg (N := 6) ?hd (xs := ([(tz1) % 256] : List Int)) (inner := [.int .u8 ((tz1) % 256)]) (ok := fun _ => True) (okp := fun _ => True) ?hr ?hp (fun _ hk => hk) trivial (Below.refl _ _) (Nat.le_refl _) (by simp) ?_; (case hd => rfl); (case hg => rfl); (case hr => first | (go_simp; done) | (go_simp; rfl)); (case hp => exact (Reps.one (show Kd.M (Kd.int .u8) _ _ _ ((tz1) % 256) [.int .u8 ((tz1) % 256)] from rfl) (Reps.none _ _)))
           intro vz3 w8 ho9 hb hg_ hnew_
           clear hg_ hnew_
           (first | rw [← Nyz2.out] at ho9 | (simp only [Int.reduceToNat] at ho9; rw [← Nyz2.out] at ho9))
           have n0_ := am (Kd.R_lower ho9 (below_size (pb HB)))
           have n1_ := am (below_step (pb HB) hb)
           clear HB; have HOz4 := n0_; have HB := n1_; clear n0_ n1_; clear hb ho9
           refine hK.out _ _ trivial (fun hHeld => ?_)
           clear hK K
           refine norm_ (by show Act.put _ (some 6) _ = _; simp only [Act.put, sa_, s0_, s1_, i64_w, i32_w]; rfl) ?_
           exact norm_ (by simp only [putAll, Act.put, sa_, s0_, s1_] <;> rfl) (hJ1_3 (vz3) _ ⟨(pr HOz4), (pb HB)⟩)
         ·skip
          rintro vz6 w10 ⟨h0_, h1_⟩
          have n0_ : Aside0 (Kd.R (Kd.int .u8) 5 w10 w.heap.size (fun _ => True) vz6 yz5) := ⟨h0_⟩
          have n1_ : Aside0 (Below w.heap.size w w10) := ⟨h1_⟩
          clear HB h0_ h1_; have HOz7 := n0_; have HB := n1_; clear n0_ n1_
          have hHeld := trivial
          refine norm_ (by simp only [putAll, Act.put, List.setIfInBounds_toArray, List.set_cons_zero, List.set_cons_succ]; rfl) ?_
          refine on_ 1 (some 4) HT_ rfl rfl (fun K hK => ?_)
          refine goes_ Try.func34 (by kernel_rfl) rfl #[.int .i64 a0, .int .i64 5] (by rfl) rfl rfl (by (try simp only [List.map_toArray, List.map_cons, List.map_nil]) <;> rfl) ?_
          with_reducible refine (u8_pick.calls a0 5 tz1 _ A2.out).mono ?_
          rintro e w' ⟨rfl, ⟨nd, rfl⟩⟩
          refine ⟨_, rfl, ?_⟩
          refine hK.out _ _ trivial (fun hHeld => ?_)
          clear hK K
          refine norm_ (by show Act.put _ (some 4) _ = _; simp only [Act.put, sa_, s0_, s1_, i64_w, i32_w]; rfl) ?_
          refine pv_ 2 (some 5) HT_ ?_
          exact norm_ (by simp only [putAll, Act.put, sa_, s0_, s1_] <;> rfl) (hJ1_5_6 (vz6) _ ⟨(pr HOz7), (pb HB)⟩)
        ·skip
         rintro vz6 w9 ⟨h0_, h1_⟩
         have n0_ : Aside0 (Kd.R (Kd.int .u8) 5 w9 w.heap.size (fun _ => True) vz6 yz5) := ⟨h0_⟩
         have n1_ : Aside0 (Below w.heap.size w w9) := ⟨h1_⟩
         clear HB h0_ h1_; have HOz7 := n0_; have HB := n1_; clear n0_ n1_
         have hHeld := trivial
         refine norm_ (by simp only [putAll, Act.put, List.setIfInBounds_toArray, List.set_cons_zero, List.set_cons_succ]; rfl) ?_
         refine two_ (i := 3) (j := 6) (Ni := some 6) (Nj := some 9) #[true, true, true, true, false, true, false, false, false] #[true, true, true, false, false, true, true, false, false] rfl rfl rfl rfl (two_of HT_.out (by kernel_rfl)) (by decide) (by decide) (fun K hK => ?_) (fun K hK => ?_)
         rotate_left
         ·skip
          have hcv10 := own_string (P := Try.prog) Try.underlying57 Try.underlying5 Try.underlying9 (Kd.own_of_R HOz7.out)
          refine value_ (w1 := ?_) (v := ?_) (by rfl) rfl ?_ ?_
          rotate_left 2
          ·go_simp
           constructor
           rotate_left
           ·rfl
           rfl
          clear hcv10
          refine hK.out _ _ trivial (fun hHeld => ?_)
          clear hK K
          refine norm_ (by show Act.put _ (some 9) _ = _; simp only [Act.put, sa_, s0_, s1_, i64_w, i32_w]; rfl) ?_
          exact norm_ (by simp only [putAll, Act.put, sa_, s0_, s1_] <;> rfl) (hJ1_5_6 (vz6) _ ⟨(pr HOz7), (pb HB)⟩)
         skip
         refine Kd.R_lit_step (Kd.int .u8) _ 5 ?hg (N := 6) ?hd (xs := ([(tz1) % 256] : List Int)) (inner := [.int .u8 ((tz1) % 256)]) (ok := fun _ => True) (okp := fun _ => True) ?hr ?hp (fun _ hk => hk) trivial (Below.refl _ _) (Nat.le_refl _) (by simp) ?_; (case hd => rfl); (case hg => rfl); (case hr => first | (go_simp; done) | (go_simp; rfl)); (case hp => exact (Reps.one (show Kd.M (Kd.int .u8) _ _ _ ((tz1) % 256) [.int .u8 ((tz1) % 256)] from rfl) (Reps.none _ _)))
         intro vz3 w10 ho11 hb hg_ hnew_
         clear hg_ hnew_
         (first | rw [← Nyz2.out] at ho11 | (simp only [Int.reduceToNat] at ho11; rw [← Nyz2.out] at ho11))
         have n0_ := am (Kd.R_elder' (pr HOz7) (Kd.R_base ho11) hb)
         have n1_ := am (Kd.R_lower (Kd.R_new' ho11 (Kd.R_lt (pr HOz7))) (below_size (pb HB)))
         have n2_ := am (below_step (pb HB) hb)
         clear HOz7 HB; have HOz7 := n0_; have HOz4 := n1_; have HB := n2_; clear n0_ n1_ n2_; clear hb ho11
         refine hK.out _ _ trivial (fun hHeld => ?_)
         clear hK K
         refine norm_ (by show Act.put _ (some 6) _ = _; simp only [Act.put, sa_, s0_, s1_, i64_w, i32_w]; rfl) ?_
         exact norm_ (by simp only [putAll, Act.put, sa_, s0_, s1_] <;> rfl) (hJ1_3_5 (vz3, vz6) _ ⟨(pm HOz4 (fun _ hk => hk.2)), (pm HOz7 (fun _ hk => hk.2)), (pb HB)⟩)
       ·skip
        rintro vz3 w9 ⟨h0_, h1_⟩
        have n0_ : Aside0 (Kd.R (Kd.int .u8) 5 w9 w.heap.size (fun _ => True) vz3 yz2) := ⟨h0_⟩
        have n1_ : Aside0 (Below w.heap.size w w9) := ⟨h1_⟩
        clear HB h0_ h1_; have HOz4 := n0_; have HB := n1_; clear n0_ n1_
        have hHeld := trivial
        refine norm_ (by simp only [putAll, Act.put, List.setIfInBounds_toArray, List.set_cons_zero, List.set_cons_succ]; rfl) ?_
        refine two_ (i := 4) (j := 5) (Ni := some 7) (Nj := some 8) #[true, true, true, true, true, false, false, false, false] #[true, true, true, true, false, true, false, false, false] rfl rfl rfl rfl (two_of HT_.out (by kernel_rfl)) (by decide) (by decide) (fun K hK => ?_) (fun K hK => ?_)
        ·skip
         have hcv10 := own_string (P := Try.prog) Try.underlying57 Try.underlying5 Try.underlying9 (Kd.own_of_R HOz4.out)
         refine value_ (w1 := ?_) (v := ?_) (by rfl) rfl ?_ ?_
         rotate_left 2
         ·go_simp
          constructor
          rotate_left
          ·rfl
          rfl
         clear hcv10
         refine hK.out _ _ trivial (fun hHeld => ?_)
         clear hK K
         refine norm_ (by show Act.put _ (some 7) _ = _; simp only [Act.put, sa_, s0_, s1_, i64_w, i32_w]; rfl) ?_
         exact norm_ (by simp only [putAll, Act.put, sa_, s0_, s1_] <;> rfl) (hJ1_3_4 (vz3) _ ⟨(pr HOz4), (pb HB)⟩)
        skip
        refine Kd.R_make_step (Kd.int .u8) _ 5 (by rfl) (N := 8) rfl 57 _ _ rfl 23 rfl rfl Try.underlying57 (.int .u8 0) 1 info5 rfl (by decide) (by omega) 0 (ok := fun _ => True) (okp := fun _ => True) rfl (fun _ hk => hk) trivial (by omega) (by omega) (Below.refl _ _) (Nat.le_refl _) ?_
        intro vz6 w10 ho11 hb hg_ hnew_
        clear hg_ hnew_
        (first | rw [← Nyz5.out] at ho11 | (simp only [Int.reduceToNat] at ho11; rw [← Nyz5.out] at ho11))
        have n0_ := am (Kd.R_elder' (pr HOz4) (Kd.R_base ho11) hb)
        have n1_ := am (Kd.R_lower (Kd.R_new' ho11 (Kd.R_lt (pr HOz4))) (below_size (pb HB)))
        have n2_ := am (below_step (pb HB) hb)
        clear HOz4 HB; have HOz4 := n0_; have HOz7 := n1_; have HB := n2_; clear n0_ n1_ n2_; clear hb ho11
        refine hK.out _ _ trivial (fun hHeld => ?_)
        clear hK K
        refine norm_ (by show Act.put _ (some 8) _ = _; simp only [Act.put, sa_, s0_, s1_, i64_w, i32_w]; rfl) ?_
        exact norm_ (by simp only [putAll, Act.put, sa_, s0_, s1_] <;> rfl) (hJ1_3_5 (vz3, vz6) _ ⟨(pm HOz4 (fun _ hk => hk.2)), (pm HOz7 (fun _ hk => hk.2)), (pb HB)⟩)
      ·skip
       rintro vz6 w10 ⟨h0_, h1_⟩
       have n0_ : Aside0 (Kd.R (Kd.int .u8) 5 w10 w.heap.size (fun _ => True) vz6 yz5) := ⟨h0_⟩
       have n1_ : Aside0 (Below w.heap.size w w10) := ⟨h1_⟩
       clear HB h0_ h1_; have HOz7 := n0_; have HB := n1_; clear n0_ n1_
       have hHeld := trivial
       refine norm_ (by simp only [putAll, Act.put, List.setIfInBounds_toArray, List.set_cons_zero, List.set_cons_succ]; rfl) ?_
       refine on_ 3 (some 6) HT_ rfl rfl (fun K hK => ?_)
       refine Kd.R_lit_step (Kd.int .u8) _ 5 ?hg (N := 6) ?hd (xs := ([(tz1) % 256] : List Int)) (inner := [.int .u8 ((tz1) % 256)]) (ok := fun _ => True) (okp := fun _ => True) ?hr ?hp (fun _ hk => hk) trivial (Below.refl _ _) (Nat.le_refl _) (by simp) ?_; (case hd => rfl); (case hg => rfl); (case hr => first | (go_simp; done) | (go_simp; rfl)); (case hp => exact (Reps.one (show Kd.M (Kd.int .u8) _ _ _ ((tz1) % 256) [.int .u8 ((tz1) % 256)] from rfl) (Reps.none _ _)))
       intro vz3 w11 ho12 hb hg_ hnew_
       clear hg_ hnew_
       (first | rw [← Nyz2.out] at ho12 | (simp only [Int.reduceToNat] at ho12; rw [← Nyz2.out] at ho12))
       have n0_ := am (Kd.R_elder' (pr HOz7) (Kd.R_base ho12) hb)
       have n1_ := am (Kd.R_lower (Kd.R_new' ho12 (Kd.R_lt (pr HOz7))) (below_size (pb HB)))
       have n2_ := am (below_step (pb HB) hb)
       clear HOz7 HB; have HOz7 := n0_; have HOz4 := n1_; have HB := n2_; clear n0_ n1_ n2_; clear hb ho12
       refine hK.out _ _ trivial (fun hHeld => ?_)
       clear hK K
       refine norm_ (by show Act.put _ (some 6) _ = _; simp only [Act.put, sa_, s0_, s1_, i64_w, i32_w]; rfl) ?_
       exact norm_ (by simp only [putAll, Act.put, sa_, s0_, s1_] <;> rfl) (hJ1_3_5_6 (vz3, vz6) _ ⟨(pm HOz4 (fun _ hk => hk.2)), (pm HOz7 (fun _ hk => hk.2)), (pb HB)⟩)
     ·skip
      rintro ⟨vz3, vz6⟩ w11 ⟨h0_, h1_, h2_⟩
      have n0_ : Aside0 (Kd.R (Kd.int .u8) 5 w11 w.heap.size (fun k_ => some k_ ≠ (vz6 : Value).ownBlock) vz3 yz2) := ⟨h0_⟩
      have n1_ : Aside0 (Kd.R (Kd.int .u8) 5 w11 w.heap.size (fun k_ => some k_ ≠ (vz3 : Value).ownBlock) vz6 yz5) := ⟨h1_⟩
      have n2_ : Aside0 (Below w.heap.size w w11) := ⟨h2_⟩
      clear HB h0_ h1_ h2_; have HOz4 := n0_; have HOz7 := n1_; have HB := n2_; clear n0_ n1_ n2_
      have hHeld := trivial
      refine norm_ (by simp only [putAll, Act.put, List.setIfInBounds_toArray, List.set_cons_zero, List.set_cons_succ]; rfl) ?_
      refine two_ (i := 4) (j := 6) (Ni := some 7) (Nj := some 9) #[true, true, true, true, true, true, false, false, false] #[true, true, true, true, false, true, true, false, false] rfl rfl rfl rfl (two_of HT_.out (by kernel_rfl)) (by decide) (by decide) (fun K hK => ?_) (fun K hK => ?_)
      rotate_left
      ·skip
       have hcv12 := own_string (P := Try.prog) Try.underlying57 Try.underlying5 Try.underlying9 (Kd.own_of_R HOz7.out)
       refine value_ (w1 := ?_) (v := ?_) (by rfl) rfl ?_ ?_
       rotate_left 2
       ·go_simp
        constructor
        rotate_left
        ·rfl
        rfl
       clear hcv12
       refine hK.out _ _ trivial (fun hHeld => ?_)
       clear hK K
       refine norm_ (by show Act.put _ (some 9) _ = _; simp only [Act.put, sa_, s0_, s1_, i64_w, i32_w]; rfl) ?_
       exact norm_ (by simp only [putAll, Act.put, sa_, s0_, s1_] <;> rfl) (hJ1_3_5_6 (vz3, vz6) _ ⟨(pr HOz4), (pr HOz7), (pb HB)⟩)
      skip
      have hcv12 := own_string (P := Try.prog) Try.underlying57 Try.underlying5 Try.underlying9 (Kd.own_of_R HOz4.out)
      refine value_ (w1 := ?_) (v := ?_) (by rfl) rfl ?_ ?_
      rotate_left 2
      ·go_simp
       constructor
       rotate_left
       ·rfl
       rfl
      clear hcv12
      refine hK.out _ _ trivial (fun hHeld => ?_)
      clear hK K
      refine norm_ (by show Act.put _ (some 7) _ = _; simp only [Act.put, sa_, s0_, s1_, i64_w, i32_w]; rfl) ?_
      exact norm_ (by simp only [putAll, Act.put, sa_, s0_, s1_] <;> rfl) (hJ1_3_4_5 (vz3, vz6) _ ⟨(pr HOz4), (pr HOz7), (pb HB)⟩)
    ·skip
     rintro vz3 w10 ⟨h0_, h1_⟩
     have n0_ : Aside0 (Kd.R (Kd.int .u8) 5 w10 w.heap.size (fun _ => True) vz3 yz2) := ⟨h0_⟩
     have n1_ : Aside0 (Below w.heap.size w w10) := ⟨h1_⟩
     clear HB h0_ h1_; have HOz4 := n0_; have HB := n1_; clear n0_ n1_
     have hHeld := trivial
     refine norm_ (by simp only [putAll, Act.put, List.setIfInBounds_toArray, List.set_cons_zero, List.set_cons_succ]; rfl) ?_
     refine on_ 5 (some 8) HT_ rfl rfl (fun K hK => ?_)
     refine Kd.R_make_step (Kd.int .u8) _ 5 (by rfl) (N := 8) rfl 57 _ _ rfl 23 rfl rfl Try.underlying57 (.int .u8 0) 1 info5 rfl (by decide) (by omega) 0 (ok := fun _ => True) (okp := fun _ => True) rfl (fun _ hk => hk) trivial (by omega) (by omega) (Below.refl _ _) (Nat.le_refl _) ?_
     intro vz6 w11 ho12 hb hg_ hnew_
     clear hg_ hnew_
     (first | rw [← Nyz5.out] at ho12 | (simp only [Int.reduceToNat] at ho12; rw [← Nyz5.out] at ho12))
     have n0_ := am (Kd.R_elder' (pr HOz4) (Kd.R_base ho12) hb)
     have n1_ := am (Kd.R_lower (Kd.R_new' ho12 (Kd.R_lt (pr HOz4))) (below_size (pb HB)))
     have n2_ := am (below_step (pb HB) hb)
     clear HOz4 HB; have HOz4 := n0_; have HOz7 := n1_; have HB := n2_; clear n0_ n1_ n2_; clear hb ho12
     refine hK.out _ _ trivial (fun hHeld => ?_)
     clear hK K
     refine norm_ (by show Act.put _ (some 8) _ = _; simp only [Act.put, sa_, s0_, s1_, i64_w, i32_w]; rfl) ?_
     exact norm_ (by simp only [putAll, Act.put, sa_, s0_, s1_] <;> rfl) (hJ1_3_4_5 (vz3, vz6) _ ⟨(pm HOz4 (fun _ hk => hk.2)), (pm HOz7 (fun _ hk => hk.2)), (pb HB)⟩)
   ·skip
    rintro ⟨vz3, vz6⟩ w12 ⟨h0_, h1_, h2_⟩
    have n0_ : Aside0 (Kd.R (Kd.int .u8) 5 w12 w.heap.size (fun k_ => some k_ ≠ (vz6 : Value).ownBlock) vz3 yz2) := ⟨h0_⟩
    have n1_ : Aside0 (Kd.R (Kd.int .u8) 5 w12 w.heap.size (fun k_ => some k_ ≠ (vz3 : Value).ownBlock) vz6 yz5) := ⟨h1_⟩
    have n2_ : Aside0 (Below w.heap.size w w12) := ⟨h2_⟩
    clear HB h0_ h1_ h2_; have HOz4 := n0_; have HOz7 := n1_; have HB := n2_; clear n0_ n1_ n2_
    have hHeld := trivial
    refine norm_ (by simp only [putAll, Act.put, List.setIfInBounds_toArray, List.set_cons_zero, List.set_cons_succ]; rfl) ?_
    refine on_ 4 (some 7) HT_ rfl rfl (fun K hK => ?_)
    have hcv13 := own_string (P := Try.prog) Try.underlying57 Try.underlying5 Try.underlying9 (Kd.own_of_R HOz4.out)
    refine value_ (w1 := ?_) (v := ?_) (by rfl) rfl ?_ ?_
    rotate_left 2
    ·go_simp
     constructor
     rotate_left
     ·rfl
     rfl
    clear hcv13
    refine hK.out _ _ trivial (fun hHeld => ?_)
    clear hK K
    refine norm_ (by show Act.put _ (some 7) _ = _; simp only [Act.put, sa_, s0_, s1_, i64_w, i32_w]; rfl) ?_
    exact norm_ (by simp only [putAll, Act.put, sa_, s0_, s1_] <;> rfl) (hJ1_3_4_5_6 (vz3, vz6) _ ⟨(pr HOz4), (pr HOz7), (pb HB)⟩)
  ·skip
   rintro ⟨vz3, vz6⟩ w12 ⟨h0_, h1_, h2_⟩
   have n0_ : Aside0 (Kd.R (Kd.int .u8) 5 w12 w.heap.size (fun k_ => some k_ ≠ (vz6 : Value).ownBlock) vz3 yz2) := ⟨h0_⟩
   have n1_ : Aside0 (Kd.R (Kd.int .u8) 5 w12 w.heap.size (fun k_ => some k_ ≠ (vz3 : Value).ownBlock) vz6 yz5) := ⟨h1_⟩
   have n2_ : Aside0 (Below w.heap.size w w12) := ⟨h2_⟩
   clear HB h0_ h1_ h2_; have HOz4 := n0_; have HOz7 := n1_; have HB := n2_; clear n0_ n1_ n2_
   have hHeld := trivial
   refine norm_ (by simp only [putAll, Act.put, List.setIfInBounds_toArray, List.set_cons_zero, List.set_cons_succ]; rfl) ?_
   refine on_ 6 (some 9) HT_ rfl rfl (fun K hK => ?_)
   have hcv13 := own_string (P := Try.prog) Try.underlying57 Try.underlying5 Try.underlying9 (Kd.own_of_R HOz7.out)
   refine value_ (w1 := ?_) (v := ?_) (by rfl) rfl ?_ ?_
   rotate_left 2
   ·go_simp
    constructor
    rotate_left
    ·rfl
    rfl
   clear hcv13
   refine hK.out _ _ trivial (fun hHeld => ?_)
   clear hK K
   refine norm_ (by show Act.put _ (some 9) _ = _; simp only [Act.put, sa_, s0_, s1_, i64_w, i32_w]; rfl) ?_
   exact norm_ (by simp only [putAll, Act.put, sa_, s0_, s1_] <;> rfl) (hJ1_3_4_5_6 (vz3, vz6) _ ⟨(pr HOz4), (pr HOz7), (pb HB)⟩)
 rintro ⟨vz3, vz6⟩ w13 ⟨h0_, h1_, h2_⟩
 have n0_ : Aside0 (Kd.R (Kd.int .u8) 5 w13 w.heap.size (fun k_ => some k_ ≠ (vz6 : Value).ownBlock) vz3 yz2) := ⟨h0_⟩
 have n1_ : Aside0 (Kd.R (Kd.int .u8) 5 w13 w.heap.size (fun k_ => some k_ ≠ (vz3 : Value).ownBlock) vz6 yz5) := ⟨h1_⟩
 have n2_ : Aside0 (Below w.heap.size w w13) := ⟨h2_⟩
 clear HB h0_ h1_ h2_; have HOz4 := n0_; have HOz7 := n1_; have HB := n2_; clear n0_ n1_ n2_
 have hHeld := trivial
 refine norm_ (by simp only [putAll, Act.put, List.setIfInBounds_toArray, List.set_cons_zero, List.set_cons_succ]; rfl) ?_
 refine pv_ 7 (some 10) HT_ ?_
 refine pv_ 8 (some 2) HT_ ?_
 refine done_ (done_of HT_.out (by kernel_rfl)) ?_
 try go_wp2
 go_ret
 exact ⟨by first | rfl | (simp [errW_none, errW_some] <;> rfl) | (simp only [← hsx5]; first | rfl | (simp [errW_none, errW_some] <;> rfl)) | (simp [*, errW_none, errW_some] <;> rfl), sC_ HB⟩
end Go.Proofs.Ytmkncddbecmlpaa.Pr
end
