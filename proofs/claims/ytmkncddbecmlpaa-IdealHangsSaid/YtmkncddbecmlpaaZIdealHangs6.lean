/-
  A text of what the row IdealHangs reaches, laid together by a program of this session (wip/tools/shake.py) out of this seat's texts. No condition but the ones that each lemma names.
-/
import Derived.Test.YtmkncddbecmlpaaZIdealHangs1
import Derived.Test.YtmkncddbecmlpaaZIdealHangs2
import Derived.Test.YtmkncddbecmlpaaZIdealHangs3
import Derived.Test.YtmkncddbecmlpaaZIdealHangs4
import Derived.Test.YtmkncddbecmlpaaZIdealHangs5
set_option linter.unusedVariables false
set_option linter.unusedSimpArgs false
section
namespace Go.Proofs.Ytmkncddbecmlpaa.Pr
open Go.Proofs.Ytmkncddbecmlpaa.Sq Go.RowKit Go.Proofs.YtmkncddbecmlpaaW.PrintWords Go.Proofs.YtmkncddbecmlpaaW.PrintLast Go.Proofs.YtmkncddbecmlpaaW.PrintMore
attribute [local go_sem] max2_int min2_int max_two min_two max_three min_three max_four min_four
set_option linter.unusedVariables false
set_option linter.unusedSimpArgs false
attribute [local go_sem high] eqA23
set_option maxHeartbeats 8000000 in
set_option maxRecDepth 100000 in
theorem columbariumlaw08_IdealHangs.calls (k : Nat) (A0 : Option Addr) (c0 : Nat) (l0 : List Int) (a1 : Bool) (A2 : Option Addr) (c2 : Nat) (l2 : List Int) (a3 : Int) (r : Bool) (w : World) (hr0 : Kd.C (Kd.int .i64) w A0 l0.length l0) (hc0 : l0.length ≤ c0) (hr2 : Kd.C (Kd.int .i64) w A2 l2.length l2) (hc2 : l2.length ≤ c2) (h : columbariumlaw08_IdealHangs.f k l0 a1 l2 a3 = some r) :
  Calls Try.prog 10 #[.slice A0 l0.length c0, .bool a1, .slice A2 l2.length c2, .int .i64 a3] w fun e w' => e = .returned (.bool r) ∧ Below w.heap.size w w' := by
 have hu50 := Try.underlying50
 have hu23 := Try.underlying23
 have HR0 := am hr0
 have HC0 := am hc0
 clear hr0 hc0
 have HR2 := am hr2
 have HC2 := am hc2
 clear hr2 hc2
 have HB := am (Below.refl w.heap.size w)
 have H : ((columbariumlaw08_awake.f k).bind fun tz1 => ((columbariumlaw08_Draws.f k l0 a1).bind fun btz2 => ((ideal_New.f btz2.1 btz2.2).bind fun btz4 => ((columbariumlaw08_Draws.f k l0 a1).bind fun btz15 => ((ideal_New.f btz15.1 btz15.2).bind fun btz17 => (if btz4.2.2.2.2.2 = 0 then (columbariumlaw08_IdealHangs.j0 k l2 a3 tz1 (btz17.2.2.2.2.2 != 0) btz4.1 btz4.2.1 btz4.2.2.1 btz4.2.2.2.1 btz4.2.2.2.2.1 btz17.1 btz17.2.1 btz17.2.2.1 btz17.2.2.2.1 btz17.2.2.2.2.1) else (columbariumlaw08_IdealHangs.j0 k l2 a3 tz1 true btz4.1 btz4.2.1 btz4.2.2.1 btz4.2.2.2.1 btz4.2.2.2.2.1 btz17.1 btz17.2.1 btz17.2.2.1 btz17.2.2.2.1 btz17.2.2.2.2.1))))))) = some r := h
 clear h
 replace H := Option.bind_eq_some_iff.mp H
 obtain ⟨tz1, A50, H⟩ := H
 replace H : ((columbariumlaw08_Draws.f k l0 a1).bind fun btz2 => ((ideal_New.f btz2.1 btz2.2).bind fun btz4 => ((columbariumlaw08_Draws.f k l0 a1).bind fun btz15 => ((ideal_New.f btz15.1 btz15.2).bind fun btz17 => (if btz4.2.2.2.2.2 = 0 then (columbariumlaw08_IdealHangs.j0 k l2 a3 tz1 (btz17.2.2.2.2.2 != 0) btz4.1 btz4.2.1 btz4.2.2.1 btz4.2.2.2.1 btz4.2.2.2.2.1 btz17.1 btz17.2.1 btz17.2.2.1 btz17.2.2.2.1 btz17.2.2.2.2.1) else (columbariumlaw08_IdealHangs.j0 k l2 a3 tz1 true btz4.1 btz4.2.1 btz4.2.2.1 btz4.2.2.2.1 btz4.2.2.2.2.1 btz17.1 btz17.2.1 btz17.2.2.1 btz17.2.2.2.1 btz17.2.2.2.2.1)))))) = some r := H
 have A5 := Aside0.mk A50
 clear A50
 replace H := Option.bind_eq_some_iff.mp H
 obtain ⟨⟨tz2, tz3⟩, A60, H⟩ := H
 replace H : ((ideal_New.f tz2 tz3).bind fun btz4 => ((columbariumlaw08_Draws.f k l0 a1).bind fun btz15 => ((ideal_New.f btz15.1 btz15.2).bind fun btz17 => (if btz4.2.2.2.2.2 = 0 then (columbariumlaw08_IdealHangs.j0 k l2 a3 tz1 (btz17.2.2.2.2.2 != 0) btz4.1 btz4.2.1 btz4.2.2.1 btz4.2.2.2.1 btz4.2.2.2.2.1 btz17.1 btz17.2.1 btz17.2.2.1 btz17.2.2.2.1 btz17.2.2.2.2.1) else (columbariumlaw08_IdealHangs.j0 k l2 a3 tz1 true btz4.1 btz4.2.1 btz4.2.2.1 btz4.2.2.2.1 btz4.2.2.2.2.1 btz17.1 btz17.2.1 btz17.2.2.1 btz17.2.2.2.1 btz17.2.2.2.2.1))))) = some r := H
 have A6 := Aside0.mk A60
 clear A60
 replace H := Option.bind_eq_some_iff.mp H
 obtain ⟨⟨tz4, tz5, tz6, tz9, tz12, tz13⟩, A70, H⟩ := H
 replace H : ((columbariumlaw08_Draws.f k l0 a1).bind fun btz15 => ((ideal_New.f btz15.1 btz15.2).bind fun btz17 => (if tz13 = 0 then (columbariumlaw08_IdealHangs.j0 k l2 a3 tz1 (btz17.2.2.2.2.2 != 0) tz4 tz5 tz6 tz9 tz12 btz17.1 btz17.2.1 btz17.2.2.1 btz17.2.2.2.1 btz17.2.2.2.2.1) else (columbariumlaw08_IdealHangs.j0 k l2 a3 tz1 true tz4 tz5 tz6 tz9 tz12 btz17.1 btz17.2.1 btz17.2.2.1 btz17.2.2.2.1 btz17.2.2.2.2.1)))) = some r := H
 have A7 := Aside0.mk A70
 clear A70
 replace H := Option.bind_eq_some_iff.mp H
 obtain ⟨⟨tz15, tz16⟩, A80, H⟩ := H
 replace H : ((ideal_New.f tz15 tz16).bind fun btz17 => (if tz13 = 0 then (columbariumlaw08_IdealHangs.j0 k l2 a3 tz1 (btz17.2.2.2.2.2 != 0) tz4 tz5 tz6 tz9 tz12 btz17.1 btz17.2.1 btz17.2.2.1 btz17.2.2.2.1 btz17.2.2.2.2.1) else (columbariumlaw08_IdealHangs.j0 k l2 a3 tz1 true tz4 tz5 tz6 tz9 tz12 btz17.1 btz17.2.1 btz17.2.2.1 btz17.2.2.2.1 btz17.2.2.2.2.1))) = some r := H
 have A8 := Aside0.mk A80
 clear A80
 replace H := Option.bind_eq_some_iff.mp H
 obtain ⟨⟨tz17, tz18, tz19, tz22, tz25, tz26⟩, A90, H⟩ := H
 replace H : (if tz13 = 0 then (columbariumlaw08_IdealHangs.j0 k l2 a3 tz1 (tz26 != 0) tz4 tz5 tz6 tz9 tz12 tz17 tz18 tz19 tz22 tz25) else (columbariumlaw08_IdealHangs.j0 k l2 a3 tz1 true tz4 tz5 tz6 tz9 tz12 tz17 tz18 tz19 tz22 tz25)) = some r := H
 have A9 := Aside0.mk A90
 clear A90
 have HC10 := am H
 clear H
 go_enter Try.func10, Try.ntmps10
 go_upto_region 4 with (first | ((with_reducible refine gate_callee (f := 28) rfl ?_); refine goesL_ (some 19) rfl rfl Try.func28 (by kernel_rfl) rfl #[] rfl (by (try simp only [List.map_toArray, List.map_cons, List.map_nil]); first | done | rfl | (simp only [List.length_drop, List.length_take]; rfl)) ?_; (with_reducible refine (columbariumlaw08_awake.calls k  tz1 _ A5.out).mono ?_); rintro e w11 ⟨rfl, hb⟩; refine ⟨_, rfl, ?_⟩; have n0_ := am (below_step (pb HB) hb); clear HB; have HB := n0_; clear n0_; (try clear hb); (try clear hb2); (try clear hk); (try clear hi)) | ((with_reducible refine gate_callee (f := 29) rfl ?_); refine goesL_ (some 23) rfl rfl Try.func29 (by kernel_rfl) rfl #[.slice A0 l0.length c0, .bool a1] rfl (by (try simp only [List.map_toArray, List.map_cons, List.map_nil]); first | done | rfl | (simp only [List.length_drop, List.length_take]; rfl)) ?_; (with_reducible refine (columbariumlaw08_Draws.calls k _ _ l0 a1 tz2 tz3 _ ?side1 ?side2 A6.out).mono ?_); (case side1 => repeat (first | exact (Kd.C_below HR0.out HB.out) | (with_reducible refine Kd.C_alloc ?_ _) | (with_reducible refine Kd.C_drewN ?_ _) | (with_reducible refine Kd.C_drew ?_))); (case side2 => exact HC0.out); rintro e w12 ⟨rfl, hb⟩; refine ⟨_, rfl, ?_⟩; have n0_ := am (below_step (pb HB) hb); clear HB; have HB := n0_; clear n0_; (try clear hb); (try clear hb2); (try clear hk); (try clear hi)) | ((with_reducible refine gate_callee (f := 30) rfl ?_); refine goesL_ (some 24) rfl rfl Try.func30 (by kernel_rfl) rfl #[.agg #[.string tz2, .int .i64 tz3]] rfl (by (try simp only [List.map_toArray, List.map_cons, List.map_nil]); first | done | rfl | (simp only [List.length_drop, List.length_take]; rfl)) ?_; (with_reducible refine (ideal_New.calls tz2 tz3 tz4 tz5 tz6 tz9 tz12 tz13 _ A7.out).mono ?_); rintro e w13 ⟨vz7, vz10, rfl, ho0, ho1, hb⟩; refine ⟨_, rfl, ?_⟩; have n0_ := am (Kd.R_lower ho0 (below_size (pb HB))); have n1_ := am (Kd.R_lower ho1 (below_size (pb HB))); have n2_ := am (below_step (pb HB) hb); clear HB; have HOz8 := n0_; have HOz11 := n1_; have HB := n2_; clear n0_ n1_ n2_; (try clear hb); (try clear hb2); (try clear hk); (try clear hi); (try clear ho0); (try clear ho1)) | ((with_reducible refine gate_dst (N := 10) rfl ?_); refine box_event ?hg (N := 10) ?hd (cs := #[.string (⟨#[]⟩ : ByteArray), .int .i64 0, .slice none 0 0, .slice none 0 0, .bool false]) (t := 50) ?hr ?_; (case hd => rfl); (case hg => rfl); (case hr => first | (go_simp; done) | (go_simp; rfl)); intro gbz14 hg w14 hbox hb; have n0_ := am (Kd.R_below (pr HOz8) hb); have n1_ := am (Kd.R_below (pr HOz11) hb); have n2_ := am (below_step (pb HB) hb); have n3_ := am (hbox); have n4_ := am ((by rw [hg]; exact (below_size (pb HB)) : w.heap.size ≤ gbz14)); have n5_ := am ((by rw [hg]; exact (below_size (pb HB)) : w.heap.size ≤ gbz14)); clear HOz8; clear HOz11; clear HB; have HOz8 := n0_; have HOz11 := n1_; have HB := n2_; have BKz14 := n3_; have GWz14 := n4_; have GEz14 := n5_; clear n0_ n1_ n2_ n3_ n4_ n5_; clear hb hbox hg; have hcz15_0 : w14.cell? ⟨gbz14, 0, none⟩ = some (.string (⟨#[]⟩ : ByteArray)) := (blk_cell BKz14.out 0).trans rfl; have hcz15_1 : w14.cell? ⟨gbz14, 1, none⟩ = some (.int .i64 0) := (blk_cell BKz14.out 1).trans rfl; have hcz15_2 : w14.cell? ⟨gbz14, 2, none⟩ = some (.slice none 0 0) := (blk_cell BKz14.out 2).trans rfl; have hcz15_3 : w14.cell? ⟨gbz14, 3, none⟩ = some (.slice none 0 0) := (blk_cell BKz14.out 3).trans rfl; have hcz15_4 : w14.cell? ⟨gbz14, 4, none⟩ = some (.bool false) := (blk_cell BKz14.out 4).trans rfl; have hfz15_0 := blk_frozen BKz14.out 0; have hfz15_1 := blk_frozen BKz14.out 1; have hfz15_2 := blk_frozen BKz14.out 2; have hfz15_3 := blk_frozen BKz14.out 3; have hfz15_4 := blk_frozen BKz14.out 4; obtain ⟨Ao16, co16, eo16⟩ := Kd.R_slice HOz8.out; subst eo16; obtain ⟨Ao17, co17, eo17⟩ := Kd.R_slice HOz11.out; subst eo17) | ((with_reducible refine gate_callee (f := 29) rfl ?_); refine goesL_ (some 30) rfl rfl Try.func29 (by kernel_rfl) rfl #[.slice A0 l0.length c0, .bool a1] rfl (by (try simp only [List.map_toArray, List.map_cons, List.map_nil]); first | done | rfl | (simp only [List.length_drop, List.length_take]; rfl)) ?_; (with_reducible refine (columbariumlaw08_Draws.calls k _ _ l0 a1 tz15 tz16 _ ?side1 ?side2 A8.out).mono ?_); (case side1 => exact Kd.C_below HR0.out (by repeat (first | (with_reducible first | exact HB.out | apply below_alloc | apply pw_below_drewN | apply below_drew1 | refine below_set ?_ GEz14.out) | exact HB.out))); (case side2 => exact HC0.out); rintro e w18 ⟨rfl, hb⟩; refine ⟨_, rfl, ?_⟩; have n0_ := am (Kd.R_below (by (with_reducible repeat (first | apply Kd.R_alloc | apply Kd.R_drewN | apply Kd.R_drew)); exact (Kd.R_mono (rf5 (Kd.R_types HOz8.out BKz14.out (by decide)) (fun _ hk => hk.2)) (fun _ h_ => h_.1))) hb); have n1_ := am (Kd.R_below (by (with_reducible repeat (first | apply Kd.R_alloc | apply Kd.R_drewN | apply Kd.R_drew)); exact (Kd.R_mono (rf5 (Kd.R_types HOz11.out BKz14.out (by decide)) (fun _ hk => hk.2)) (fun _ h_ => h_.1))) hb); have n2_ := am (blk_below (g := gbz14) (o := .cells #[.string tz4, .int .i64 tz5, .slice Ao16 tz6.length co16, .slice Ao17 tz9.length co17, .bool tz12] 50 (0, 0)) (by (with_reducible repeat (first | refine blk_drewN ?_ _ | refine blk_drew ?_ | refine blk_alloc ?_ _)); refine blk_put (cs := #[.string tz4, .int .i64 tz5, .slice Ao16 tz6.length co16, .slice Ao17 tz9.length co17, .bool false]) ?_ 4 _ rfl; (with_reducible repeat (first | refine blk_drewN ?_ _ | refine blk_drew ?_ | refine blk_alloc ?_ _)); refine blk_put (cs := #[.string tz4, .int .i64 tz5, .slice Ao16 tz6.length co16, .slice none 0 0, .bool false]) ?_ 3 _ rfl; (with_reducible repeat (first | refine blk_drewN ?_ _ | refine blk_drew ?_ | refine blk_alloc ?_ _)); refine blk_put (cs := #[.string tz4, .int .i64 tz5, .slice none 0 0, .slice none 0 0, .bool false]) ?_ 2 _ rfl; (with_reducible repeat (first | refine blk_drewN ?_ _ | refine blk_drew ?_ | refine blk_alloc ?_ _)); refine blk_put (cs := #[.string tz4, .int .i64 0, .slice none 0 0, .slice none 0 0, .bool false]) ?_ 1 _ rfl; (with_reducible repeat (first | refine blk_drewN ?_ _ | refine blk_drew ?_ | refine blk_alloc ?_ _)); refine blk_put (cs := #[.string (⟨#[]⟩ : ByteArray), .int .i64 0, .slice none 0 0, .slice none 0 0, .bool false]) ?_ 0 _ rfl; (with_reducible repeat (first | refine blk_drewN ?_ _ | refine blk_drew ?_ | refine blk_alloc ?_ _)); exact BKz14.out) hb); have n3_ := am (below_step (by repeat (first | (with_reducible first | exact HB.out | apply below_alloc | apply pw_below_drewN | apply below_drew1 | refine below_set ?_ GEz14.out) | exact HB.out)) hb); clear HOz8; clear HOz11; clear BKz14; clear HB; have HOz8 := n0_; have HOz11 := n1_; have BKz14 := n2_; have HB := n3_; clear n0_ n1_ n2_ n3_; (try clear hb); (try clear hb2); (try clear hk); (try clear hi)) | ((with_reducible refine gate_callee (f := 30) rfl ?_); refine goesL_ (some 31) rfl rfl Try.func30 (by kernel_rfl) rfl #[.agg #[.string tz15, .int .i64 tz16]] rfl (by (try simp only [List.map_toArray, List.map_cons, List.map_nil]); first | done | rfl | (simp only [List.length_drop, List.length_take]; rfl)) ?_; (with_reducible refine (ideal_New.calls tz15 tz16 tz17 tz18 tz19 tz22 tz25 tz26 _ A9.out).mono ?_); rintro e w19 ⟨vz20, vz23, rfl, ho0, ho1, hb⟩; refine ⟨_, rfl, ?_⟩; have n0_ := am (Kd.R_elder' (pr HOz8) (Kd.R_base ho0) hb); have n1_ := am (Kd.R_elder' (pr HOz11) (Kd.R_base ho1) hb); have n2_ := am (Kd.R_lower (Kd.R_new' ho0 (Kd.R_lt (pr HOz8))) (below_size (by repeat (first | (with_reducible first | exact HB.out | apply below_alloc | apply pw_below_drewN | apply below_drew1 | refine below_set ?_ GEz14.out) | exact HB.out)))); have n3_ := am (Kd.R_lower (Kd.R_new' ho1 (Kd.R_lt (pr HOz11))) (below_size (by repeat (first | (with_reducible first | exact HB.out | apply below_alloc | apply pw_below_drewN | apply below_drew1 | refine below_set ?_ GEz14.out) | exact HB.out)))); have n4_ := am (blk_below (pk BKz14) hb); have n5_ := am (below_step (by repeat (first | (with_reducible first | exact HB.out | apply below_alloc | apply pw_below_drewN | apply below_drew1 | refine below_set ?_ GEz14.out) | exact HB.out)) hb); clear HOz8; clear HOz11; clear BKz14; clear HB; have HOz8 := n0_; have HOz11 := n1_; have HOz21 := n2_; have HOz24 := n3_; have BKz14 := n4_; have HB := n5_; clear n0_ n1_ n2_ n3_ n4_ n5_; (try clear hb); (try clear hb2); (try clear hk); (try clear hi); (try clear ho0); (try clear ho1)) | ((with_reducible refine gate_dst (N := 12) rfl ?_); refine box_event ?hg (N := 12) ?hd (cs := #[.string (⟨#[]⟩ : ByteArray), .int .i64 0, .slice none 0 0, .slice none 0 0, .bool false]) (t := 50) ?hr ?_; (case hd => rfl); (case hg => rfl); (case hr => first | (go_simp; done) | (go_simp; rfl)); intro gbz27 hg w20 hbox hb; have n0_ := am (Kd.R_below (pr HOz8) hb); have n1_ := am (Kd.R_below (pr HOz11) hb); have n2_ := am (Kd.R_below (pr HOz21) hb); have n3_ := am (Kd.R_below (pr HOz24) hb); have n4_ := am (blk_below (pk BKz14) hb); have n5_ := am (below_step (by repeat (first | (with_reducible first | exact HB.out | apply below_alloc | apply pw_below_drewN | apply below_drew1 | refine below_set ?_ GEz14.out) | exact HB.out)) hb); have n6_ := am (hbox); have n7_ := am ((by rw [hg]; exact (below_size (by repeat (first | (with_reducible first | exact HB.out | apply below_alloc | apply pw_below_drewN | apply below_drew1 | refine below_set ?_ GEz14.out) | exact HB.out))) : w.heap.size ≤ gbz27)); have n8_ := am ((by rw [hg]; exact (below_size (by repeat (first | (with_reducible first | exact HB.out | apply below_alloc | apply pw_below_drewN | apply below_drew1 | refine below_set ?_ GEz14.out) | exact HB.out))) : w.heap.size ≤ gbz27)); have n9_ := am ((by rw [hg]; exact Nat.ne_of_lt (blk_lt (g := gbz14) (o := .cells #[.string tz4, .int .i64 tz5, .slice Ao16 tz6.length co16, .slice Ao17 tz9.length co17, .bool tz12] 50 (0, 0)) (pk BKz14)) : gbz14 ≠ gbz27)); have n10_ := am ((by rw [hg]; exact Nat.ne_of_gt (blk_lt (g := gbz14) (o := .cells #[.string tz4, .int .i64 tz5, .slice Ao16 tz6.length co16, .slice Ao17 tz9.length co17, .bool tz12] 50 (0, 0)) (pk BKz14)) : gbz27 ≠ gbz14)); clear HOz8; clear HOz11; clear HOz21; clear HOz24; clear BKz14; clear HB; have HOz8 := n0_; have HOz11 := n1_; have HOz21 := n2_; have HOz24 := n3_; have BKz14 := n4_; have HB := n5_; have BKz27 := n6_; have GWz27 := n7_; have GEz27 := n8_; have NBz14_z27 := n9_; have NBz27_z14 := n10_; clear n0_ n1_ n2_ n3_ n4_ n5_ n6_ n7_ n8_ n9_ n10_; clear hb hbox hg; have hnb21 := NBz27_z14.out; have hnc21 := NBz14_z27.out; have hcz22_0 : w20.cell? ⟨gbz27, 0, none⟩ = some (.string (⟨#[]⟩ : ByteArray)) := (blk_cell BKz27.out 0).trans rfl; have hcz22_1 : w20.cell? ⟨gbz27, 1, none⟩ = some (.int .i64 0) := (blk_cell BKz27.out 1).trans rfl; have hcz22_2 : w20.cell? ⟨gbz27, 2, none⟩ = some (.slice none 0 0) := (blk_cell BKz27.out 2).trans rfl; have hcz22_3 : w20.cell? ⟨gbz27, 3, none⟩ = some (.slice none 0 0) := (blk_cell BKz27.out 3).trans rfl; have hcz22_4 : w20.cell? ⟨gbz27, 4, none⟩ = some (.bool false) := (blk_cell BKz27.out 4).trans rfl; have hfz22_0 := blk_frozen BKz27.out 0; have hfz22_1 := blk_frozen BKz27.out 1; have hfz22_2 := blk_frozen BKz27.out 2; have hfz22_3 := blk_frozen BKz27.out 3; have hfz22_4 := blk_frozen BKz27.out 4; obtain ⟨Ao23, co23, eo23⟩ := Kd.R_slice HOz21.out; subst eo23; obtain ⟨Ao24, co24, eo24⟩ := Kd.R_slice HOz24.out; subst eo24))
 (try simp only [Act.put, List.setIfInBounds_toArray, List.set_cons_zero, List.set_cons_succ])
 go_cut [39] (fun v39 wc => ∃ (kq : Nat) (x39_9 : Bool), v39 = .bool x39_9 ∧ Aside0 (columbariumlaw08_IdealHangs.j0 kq l2 a3 tz1 x39_9 tz4 tz5 tz6 tz9 tz12 tz17 tz18 tz19 tz22 tz25 = some r) ∧ Aside0 (kq ≤ k) ∧ Aside0 (Kd.R k72 72 wc w.heap.size (fun k_ => some k_ ≠ ((.slice Ao23 tz19.length co23) : Value).ownBlock) (.slice Ao16 tz6.length co16) tz6) ∧ Aside0 (Kd.R k74 74 wc w.heap.size (fun k_ => some k_ ≠ ((.slice Ao24 tz22.length co24) : Value).ownBlock) (.slice Ao17 tz9.length co17) tz9) ∧ Aside0 (Kd.R k72 72 wc w.heap.size (fun k_ => some k_ ≠ ((.slice Ao16 tz6.length co16) : Value).ownBlock) (.slice Ao23 tz19.length co23) tz19) ∧ Aside0 (Kd.R k74 74 wc w.heap.size (fun k_ => some k_ ≠ ((.slice Ao17 tz9.length co17) : Value).ownBlock) (.slice Ao24 tz22.length co24) tz22) ∧ Aside0 (wc.heap[gbz14]? = some (.cells #[.string tz4, .int .i64 tz5, (.slice Ao16 tz6.length co16), (.slice Ao17 tz9.length co17), .bool tz12] 50 (0, 0))) ∧ Aside0 (wc.heap[gbz27]? = some (.cells #[.string tz17, .int .i64 tz18, (.slice Ao23 tz19.length co23), (.slice Ao24 tz22.length co24), .bool tz25] 50 (0, 0))) ∧ Aside0 (Below w.heap.size w wc))
 case first =>
  have H := HC10.out
  clear HC10
  by_cases c25 : tz13 = 0
  rotate_left
  ·rw [if_neg c25] at H
   have c25b0 : (tz13 == 0) = false := beq_eq_false_iff_ne.mpr c25
   have c25b1 : (tz13 != 0) = true := bne_iff_ne.mpr c25
   (first | rw [c25b0] | rw [c25b1] | (simp only [i64_w, i32_w]; rw [c25b0]) | skip)
   have H' := am H
   clear H
   go_wp2
   go_meet
   case rel => exact ⟨_, (true), (by first | rfl | (simp; done) | (simp [*]; done)), H', ⟨by first | omega | exact Nat.le_refl _⟩, ⟨by (with_reducible repeat (first | apply Kd.R_alloc | apply Kd.R_drewN | apply Kd.R_drew)); exact Kd.R_mono (rf5 (Kd.R_types HOz8.out BKz27.out (by decide)) (fun _ hk => hk.2)) (fun _ hk => hk.1.2)⟩, ⟨by (with_reducible repeat (first | apply Kd.R_alloc | apply Kd.R_drewN | apply Kd.R_drew)); exact Kd.R_mono (rf5 (Kd.R_types HOz11.out BKz27.out (by decide)) (fun _ hk => hk.2)) (fun _ hk => hk.1.2)⟩, ⟨by (with_reducible repeat (first | apply Kd.R_alloc | apply Kd.R_drewN | apply Kd.R_drew)); exact Kd.R_mono (rf5 (Kd.R_types HOz21.out BKz27.out (by decide)) (fun _ hk => hk.2)) (fun _ hk => hk.1.2)⟩, ⟨by (with_reducible repeat (first | apply Kd.R_alloc | apply Kd.R_drewN | apply Kd.R_drew)); exact Kd.R_mono (rf5 (Kd.R_types HOz24.out BKz27.out (by decide)) (fun _ hk => hk.2)) (fun _ hk => hk.1.2)⟩, ⟨by (with_reducible repeat (first | refine blk_drewN ?_ _ | refine blk_drew ?_ | refine blk_alloc ?_ _)); refine blk_far ?_ NBz14_z27.out _; (with_reducible repeat (first | refine blk_drewN ?_ _ | refine blk_drew ?_ | refine blk_alloc ?_ _)); refine blk_far ?_ NBz14_z27.out _; (with_reducible repeat (first | refine blk_drewN ?_ _ | refine blk_drew ?_ | refine blk_alloc ?_ _)); refine blk_far ?_ NBz14_z27.out _; (with_reducible repeat (first | refine blk_drewN ?_ _ | refine blk_drew ?_ | refine blk_alloc ?_ _)); refine blk_far ?_ NBz14_z27.out _; (with_reducible repeat (first | refine blk_drewN ?_ _ | refine blk_drew ?_ | refine blk_alloc ?_ _)); refine blk_far ?_ NBz14_z27.out _; (with_reducible repeat (first | refine blk_drewN ?_ _ | refine blk_drew ?_ | refine blk_alloc ?_ _)); exact BKz14.out⟩, ⟨by (with_reducible repeat (first | refine blk_drewN ?_ _ | refine blk_drew ?_ | refine blk_alloc ?_ _)); refine blk_put (cs := #[.string tz17, .int .i64 tz18, .slice Ao23 tz19.length co23, .slice Ao24 tz22.length co24, .bool false]) ?_ 4 _ rfl; (with_reducible repeat (first | refine blk_drewN ?_ _ | refine blk_drew ?_ | refine blk_alloc ?_ _)); refine blk_put (cs := #[.string tz17, .int .i64 tz18, .slice Ao23 tz19.length co23, .slice none 0 0, .bool false]) ?_ 3 _ rfl; (with_reducible repeat (first | refine blk_drewN ?_ _ | refine blk_drew ?_ | refine blk_alloc ?_ _)); refine blk_put (cs := #[.string tz17, .int .i64 tz18, .slice none 0 0, .slice none 0 0, .bool false]) ?_ 2 _ rfl; (with_reducible repeat (first | refine blk_drewN ?_ _ | refine blk_drew ?_ | refine blk_alloc ?_ _)); refine blk_put (cs := #[.string tz17, .int .i64 0, .slice none 0 0, .slice none 0 0, .bool false]) ?_ 1 _ rfl; (with_reducible repeat (first | refine blk_drewN ?_ _ | refine blk_drew ?_ | refine blk_alloc ?_ _)); refine blk_put (cs := #[.string (⟨#[]⟩ : ByteArray), .int .i64 0, .slice none 0 0, .slice none 0 0, .bool false]) ?_ 0 _ rfl; (with_reducible repeat (first | refine blk_drewN ?_ _ | refine blk_drew ?_ | refine blk_alloc ?_ _)); exact BKz27.out⟩, ⟨by repeat (first | (with_reducible first | exact HB.out | apply below_alloc | apply pw_below_drewN | apply below_drew1 | refine below_set ?_ GEz14.out | refine below_set ?_ GEz27.out) | exact HB.out)⟩⟩
  rw [if_pos c25] at H
  have c25b0 : (tz13 == 0) = true := beq_iff_eq.mpr c25
  have c25b1 : (tz13 != 0) = false := bne_eq_false_iff_eq.mpr c25
  clear c25
  (first | rw [c25b0] | rw [c25b1] | (simp only [i64_w, i32_w]; rw [c25b0]) | skip)
  have H' := am H
  clear H
  go_wp2
  go_meet
  case rel => exact ⟨_, ((tz26 != 0)), (by first | rfl | (simp; done) | (simp [*]; done)), H', ⟨by first | omega | exact Nat.le_refl _⟩, ⟨by (with_reducible repeat (first | apply Kd.R_alloc | apply Kd.R_drewN | apply Kd.R_drew)); exact Kd.R_mono (rf5 (Kd.R_types HOz8.out BKz27.out (by decide)) (fun _ hk => hk.2)) (fun _ hk => hk.1.2)⟩, ⟨by (with_reducible repeat (first | apply Kd.R_alloc | apply Kd.R_drewN | apply Kd.R_drew)); exact Kd.R_mono (rf5 (Kd.R_types HOz11.out BKz27.out (by decide)) (fun _ hk => hk.2)) (fun _ hk => hk.1.2)⟩, ⟨by (with_reducible repeat (first | apply Kd.R_alloc | apply Kd.R_drewN | apply Kd.R_drew)); exact Kd.R_mono (rf5 (Kd.R_types HOz21.out BKz27.out (by decide)) (fun _ hk => hk.2)) (fun _ hk => hk.1.2)⟩, ⟨by (with_reducible repeat (first | apply Kd.R_alloc | apply Kd.R_drewN | apply Kd.R_drew)); exact Kd.R_mono (rf5 (Kd.R_types HOz24.out BKz27.out (by decide)) (fun _ hk => hk.2)) (fun _ hk => hk.1.2)⟩, ⟨by (with_reducible repeat (first | refine blk_drewN ?_ _ | refine blk_drew ?_ | refine blk_alloc ?_ _)); refine blk_far ?_ NBz14_z27.out _; (with_reducible repeat (first | refine blk_drewN ?_ _ | refine blk_drew ?_ | refine blk_alloc ?_ _)); refine blk_far ?_ NBz14_z27.out _; (with_reducible repeat (first | refine blk_drewN ?_ _ | refine blk_drew ?_ | refine blk_alloc ?_ _)); refine blk_far ?_ NBz14_z27.out _; (with_reducible repeat (first | refine blk_drewN ?_ _ | refine blk_drew ?_ | refine blk_alloc ?_ _)); refine blk_far ?_ NBz14_z27.out _; (with_reducible repeat (first | refine blk_drewN ?_ _ | refine blk_drew ?_ | refine blk_alloc ?_ _)); refine blk_far ?_ NBz14_z27.out _; (with_reducible repeat (first | refine blk_drewN ?_ _ | refine blk_drew ?_ | refine blk_alloc ?_ _)); exact BKz14.out⟩, ⟨by (with_reducible repeat (first | refine blk_drewN ?_ _ | refine blk_drew ?_ | refine blk_alloc ?_ _)); refine blk_put (cs := #[.string tz17, .int .i64 tz18, .slice Ao23 tz19.length co23, .slice Ao24 tz22.length co24, .bool false]) ?_ 4 _ rfl; (with_reducible repeat (first | refine blk_drewN ?_ _ | refine blk_drew ?_ | refine blk_alloc ?_ _)); refine blk_put (cs := #[.string tz17, .int .i64 tz18, .slice Ao23 tz19.length co23, .slice none 0 0, .bool false]) ?_ 3 _ rfl; (with_reducible repeat (first | refine blk_drewN ?_ _ | refine blk_drew ?_ | refine blk_alloc ?_ _)); refine blk_put (cs := #[.string tz17, .int .i64 tz18, .slice none 0 0, .slice none 0 0, .bool false]) ?_ 2 _ rfl; (with_reducible repeat (first | refine blk_drewN ?_ _ | refine blk_drew ?_ | refine blk_alloc ?_ _)); refine blk_put (cs := #[.string tz17, .int .i64 0, .slice none 0 0, .slice none 0 0, .bool false]) ?_ 1 _ rfl; (with_reducible repeat (first | refine blk_drewN ?_ _ | refine blk_drew ?_ | refine blk_alloc ?_ _)); refine blk_put (cs := #[.string (⟨#[]⟩ : ByteArray), .int .i64 0, .slice none 0 0, .slice none 0 0, .bool false]) ?_ 0 _ rfl; (with_reducible repeat (first | refine blk_drewN ?_ _ | refine blk_drew ?_ | refine blk_alloc ?_ _)); exact BKz27.out⟩, ⟨by repeat (first | (with_reducible first | exact HB.out | apply below_alloc | apply pw_below_drewN | apply below_drew1 | refine below_set ?_ GEz14.out | refine below_set ?_ GEz27.out) | exact HB.out)⟩⟩
 clear HC10
 try clear c1
 try clear c2
 try clear p2
 try clear c3
 try clear c10
 try clear c21
 try clear c25
 try clear c25b0
 try clear c25b1
 try clear hcz15_0
 try clear hcz15_1
 try clear hcz15_2
 try clear hcz15_3
 try clear hcz15_4
 try clear hcz22_0
 try clear hcz22_1
 try clear hcz22_2
 try clear hcz22_3
 try clear hcz22_4
 try clear hfz15_0
 try clear hfz15_1
 try clear hfz15_2
 try clear hfz15_3
 try clear hfz15_4
 try clear hfz22_0
 try clear hfz22_1
 try clear hfz22_2
 try clear hfz22_3
 try clear hfz22_4
 obtain ⟨kq, x39_9, rfl, HA, HJ9, HO_z15002, HO_z15003, HO_z28002, HO_z28003, BKz14, BKz27, HB⟩ := hcut
 cases kq with
 | zero => exact absurd HA.out (by simp [columbariumlaw08_IdealHangs.j0])
 | succ kj9 => ?_
 have H := HA.out
 clear HA
 simp only [columbariumlaw08_IdealHangs.j0] at H
 by_cases c26 : x39_9 = true
 ·subst c26
  have H1 : (none) = some r := by rw [if_pos rfl] at H; exact H
  clear H
  have H := H1
  clear H1
  exact absurd H (by simp)
 replace c26 := Bool.eq_false_iff.mpr c26
 subst c26
 have H1 : (columbariumlaw08_IdealHangs.l0 kj9 l2 a3 tz1 0 tz4 tz5 tz6 tz9 tz12 tz17 tz18 tz19 tz22 tz25) = some r := by rw [if_neg (show ¬ (false = true) by decide)] at H; exact H
 clear H
 have H := H1
 clear H1
 have H' := am H
 clear H
 go_wp2
 go_loopg [14] kj9 (fun kq v14 w' => ∃ (x14_2 : Int) (xz15000_2 : ByteArray) (xz15001_2 : Int) (xz15002_2 : List (S72)) (xz15003_2 : List (S74)) (xz15004_2 : Bool) (xz28000_2 : ByteArray) (xz28001_2 : Int) (xz28002_2 : List (S72)) (xz28003_2 : List (S74)) (xz28004_2 : Bool) (uz15002 : Value) (uz15003 : Value) (uz28002 : Value) (uz28003 : Value), v14 = .int .i64 x14_2 ∧ Aside0 (columbariumlaw08_IdealHangs.l0 kq l2 a3 tz1 x14_2 xz15000_2 xz15001_2 xz15002_2 xz15003_2 xz15004_2 xz28000_2 xz28001_2 xz28002_2 xz28003_2 xz28004_2 = some r) ∧ Aside0 (kq ≤ kj9) ∧ Aside0 (Kd.R k72 72 w' w.heap.size (fun k_ => some k_ ≠ (uz28002 : Value).ownBlock) uz15002 xz15002_2) ∧ Aside0 (Kd.R k74 74 w' w.heap.size (fun k_ => some k_ ≠ (uz28003 : Value).ownBlock) uz15003 xz15003_2) ∧ Aside0 (Kd.R k72 72 w' w.heap.size (fun k_ => some k_ ≠ (uz15002 : Value).ownBlock) uz28002 xz28002_2) ∧ Aside0 (Kd.R k74 74 w' w.heap.size (fun k_ => some k_ ≠ (uz15003 : Value).ownBlock) uz28003 xz28003_2) ∧ Aside0 (w'.heap[gbz14]? = some (.cells #[.string xz15000_2, .int .i64 xz15001_2, uz15002, uz15003, .bool xz15004_2] 50 (0, 0))) ∧ Aside0 (w'.heap[gbz27]? = some (.cells #[.string xz28000_2, .int .i64 xz28001_2, uz28002, uz28003, .bool xz28004_2] 50 (0, 0))) ∧ Aside0 (Below w.heap.size w w'))
 case atStart => exact ⟨(0), (tz4), (tz5), (tz6), (tz9), (tz12), (tz17), (tz18), (tz19), (tz22), (tz25), (.slice Ao16 tz6.length co16), (.slice Ao17 tz9.length co17), (.slice Ao23 tz19.length co23), (.slice Ao24 tz22.length co24), (by first | rfl | (simp; done) | (simp [*]; done)), H', ⟨Nat.le_refl _⟩, ⟨by (with_reducible repeat (first | apply Kd.R_alloc | apply Kd.R_drewN | apply Kd.R_drew)); exact HO_z15002.out⟩, ⟨by (with_reducible repeat (first | apply Kd.R_alloc | apply Kd.R_drewN | apply Kd.R_drew)); exact HO_z15003.out⟩, ⟨by (with_reducible repeat (first | apply Kd.R_alloc | apply Kd.R_drewN | apply Kd.R_drew)); exact HO_z28002.out⟩, ⟨by (with_reducible repeat (first | apply Kd.R_alloc | apply Kd.R_drewN | apply Kd.R_drew)); exact HO_z28003.out⟩, ⟨by (with_reducible repeat (first | refine blk_drewN ?_ _ | refine blk_drew ?_ | refine blk_alloc ?_ _)); exact BKz14.out⟩, ⟨by (with_reducible repeat (first | refine blk_drewN ?_ _ | refine blk_drew ?_ | refine blk_alloc ?_ _)); exact BKz27.out⟩, ⟨by repeat (first | (with_reducible first | exact HB.out | apply below_alloc | apply pw_below_drewN | apply below_drew1 | refine below_set ?_ GEz14.out | refine below_set ?_ GEz27.out) | exact HB.out)⟩⟩
 clear H'
 try clear c1
 try clear c2
 try clear p2
 try clear c3
 try clear c10
 try clear c21
 try clear c25
 try clear c25b0
 try clear c25b1
 try clear c26
 try clear hcz15_0
 try clear hcz15_1
 try clear hcz15_2
 try clear hcz15_3
 try clear hcz15_4
 try clear hcz22_0
 try clear hcz22_1
 try clear hcz22_2
 try clear hcz22_3
 try clear hcz22_4
 try clear hfz15_0
 try clear hfz15_1
 try clear hfz15_2
 try clear hfz15_3
 try clear hfz15_4
 try clear hfz22_0
 try clear hfz22_1
 try clear hfz22_2
 try clear hfz22_3
 try clear hfz22_4
 try clear p2
 obtain ⟨x14_2, xz15000_2, xz15001_2, xz15002_2, xz15003_2, xz15004_2, xz28000_2, xz28001_2, xz28002_2, xz28003_2, xz28004_2, uz15002, uz15003, uz28002, uz28003, rfl, HA, HK2, HO_z15002, HO_z15003, HO_z28002, HO_z28003, BKz14, BKz27, HB⟩ := hrel
 cases gk with
 | zero => exact absurd HA.out (by simp [columbariumlaw08_IdealHangs.l0])
 | succ k2 => ?_
 have H := HA.out
 clear HA
 simp only [columbariumlaw08_IdealHangs.l0] at H
 have HC27 := am H
 clear H
 go_upto_region 7 with (fail)
 go_cut [47] (fun v47 wc => ∃ (kq : Nat) (x47_26 : Bool), v47 = .bool x47_26 ∧ Aside0 (columbariumlaw08_IdealHangs.j2 kq l2 a3 tz1 x14_2 x47_26 xz15000_2 xz15001_2 xz15002_2 xz15003_2 xz15004_2 xz28000_2 xz28001_2 xz28002_2 xz28003_2 xz28004_2 = some r) ∧ Aside0 (kq ≤ k2) ∧ Aside0 (Kd.R k72 72 wc w.heap.size (fun k_ => some k_ ≠ (uz28002 : Value).ownBlock) uz15002 xz15002_2) ∧ Aside0 (Kd.R k74 74 wc w.heap.size (fun k_ => some k_ ≠ (uz28003 : Value).ownBlock) uz15003 xz15003_2) ∧ Aside0 (Kd.R k72 72 wc w.heap.size (fun k_ => some k_ ≠ (uz15002 : Value).ownBlock) uz28002 xz28002_2) ∧ Aside0 (Kd.R k74 74 wc w.heap.size (fun k_ => some k_ ≠ (uz15003 : Value).ownBlock) uz28003 xz28003_2) ∧ Aside0 (wc.heap[gbz14]? = some (.cells #[.string xz15000_2, .int .i64 xz15001_2, uz15002, uz15003, .bool xz15004_2] 50 (0, 0))) ∧ Aside0 (wc.heap[gbz27]? = some (.cells #[.string xz28000_2, .int .i64 xz28001_2, uz28002, uz28003, .bool xz28004_2] 50 (0, 0))) ∧ Aside0 (Below w.heap.size w wc))
 case first =>
  have H := HC27.out
  clear HC27
  by_cases c28 : x14_2 < (l2.length : Int)
  rotate_left
  ·rw [if_neg c28] at H
   have c28b0 : decide (x14_2 < (l2.length : Int)) = false := decide_eq_false c28
   clear c28
   (first | rw [c28b0] | rw [c28b1] | (simp only [i64_w, i32_w]; rw [c28b0]) | skip)
   have H' := am H
   clear H
   go_wp2
   go_meet
   case rel => exact ⟨_, (false), (by first | rfl | (simp; done) | (simp [*]; done)), H', ⟨by have := HJ9.out; have := HK2.out; first | omega | exact Nat.le_refl _⟩, ⟨by (with_reducible repeat (first | apply Kd.R_alloc | apply Kd.R_drewN | apply Kd.R_drew)); exact HO_z15002.out⟩, ⟨by (with_reducible repeat (first | apply Kd.R_alloc | apply Kd.R_drewN | apply Kd.R_drew)); exact HO_z15003.out⟩, ⟨by (with_reducible repeat (first | apply Kd.R_alloc | apply Kd.R_drewN | apply Kd.R_drew)); exact HO_z28002.out⟩, ⟨by (with_reducible repeat (first | apply Kd.R_alloc | apply Kd.R_drewN | apply Kd.R_drew)); exact HO_z28003.out⟩, ⟨by (with_reducible repeat (first | refine blk_drewN ?_ _ | refine blk_drew ?_ | refine blk_alloc ?_ _)); exact BKz14.out⟩, ⟨by (with_reducible repeat (first | refine blk_drewN ?_ _ | refine blk_drew ?_ | refine blk_alloc ?_ _)); exact BKz27.out⟩, ⟨by repeat (first | (with_reducible first | exact HB.out | apply below_alloc | apply pw_below_drewN | apply below_drew1 | refine below_set ?_ GEz14.out | refine below_set ?_ GEz27.out) | exact HB.out)⟩⟩
  rw [if_pos c28] at H
  have c28b0 : decide (x14_2 < (l2.length : Int)) = true := decide_eq_true c28
  clear c28
  (first | rw [c28b0] | rw [c28b1] | (simp only [i64_w, i32_w]; rw [c28b0]) | skip)
  have H' := am H
  clear H
  go_wp2
  go_meet
  case rel => exact ⟨_, (decide (x14_2 < 15)), (by first | rfl | (simp; done) | (simp [*]; done)), H', ⟨by have := HJ9.out; have := HK2.out; first | omega | exact Nat.le_refl _⟩, ⟨by (with_reducible repeat (first | apply Kd.R_alloc | apply Kd.R_drewN | apply Kd.R_drew)); exact HO_z15002.out⟩, ⟨by (with_reducible repeat (first | apply Kd.R_alloc | apply Kd.R_drewN | apply Kd.R_drew)); exact HO_z15003.out⟩, ⟨by (with_reducible repeat (first | apply Kd.R_alloc | apply Kd.R_drewN | apply Kd.R_drew)); exact HO_z28002.out⟩, ⟨by (with_reducible repeat (first | apply Kd.R_alloc | apply Kd.R_drewN | apply Kd.R_drew)); exact HO_z28003.out⟩, ⟨by (with_reducible repeat (first | refine blk_drewN ?_ _ | refine blk_drew ?_ | refine blk_alloc ?_ _)); exact BKz14.out⟩, ⟨by (with_reducible repeat (first | refine blk_drewN ?_ _ | refine blk_drew ?_ | refine blk_alloc ?_ _)); exact BKz27.out⟩, ⟨by repeat (first | (with_reducible first | exact HB.out | apply below_alloc | apply pw_below_drewN | apply below_drew1 | refine below_set ?_ GEz14.out | refine below_set ?_ GEz27.out) | exact HB.out)⟩⟩
 clear HC27
 try clear c1
 try clear c2
 try clear p2
 try clear c3
 try clear c10
 try clear c21
 try clear c25
 try clear c25b0
 try clear c25b1
 try clear c26
 try clear c28
 try clear c28b0
 try clear c28b1
 try clear hcz15_0
 try clear hcz15_1
 try clear hcz15_2
 try clear hcz15_3
 try clear hcz15_4
 try clear hcz22_0
 try clear hcz22_1
 try clear hcz22_2
 try clear hcz22_3
 try clear hcz22_4
 try clear hfz15_0
 try clear hfz15_1
 try clear hfz15_2
 try clear hfz15_3
 try clear hfz15_4
 try clear hfz22_0
 try clear hfz22_1
 try clear hfz22_2
 try clear hfz22_3
 try clear hfz22_4
 try clear p2
 obtain ⟨kq, x47_26, rfl, HA, HJ26, HO_z15002, HO_z15003, HO_z28002, HO_z28003, BKz14, BKz27, HB⟩ := hcut
 cases kq with
 | zero => exact absurd HA.out (by simp [columbariumlaw08_IdealHangs.j2])
 | succ kj26 => ?_
 have H := HA.out
 clear HA
 simp only [columbariumlaw08_IdealHangs.j2] at H
 by_cases c29 : x47_26 = true
 rotate_left
 ·replace c29 := Bool.eq_false_iff.mpr c29
  subst c29
  have H1 : (some tz1) = some r := by rw [if_neg (show ¬ (false = true) by decide)] at H; exact H
  clear H
  have H := H1
  clear H1
  obtain rfl := Option.some.inj H
  go_wp2
  go_ret
  exact ⟨by first | rfl | (simp [errW_none, errW_some] <;> rfl) | (simp [*, errW_none, errW_some] <;> rfl), by repeat (first | (with_reducible first | exact HB.out | apply below_alloc | apply pw_below_drewN | apply below_drew1 | refine below_set ?_ GEz14.out | refine below_set ?_ GEz27.out) | exact HB.out)⟩
 subst c29
 have H1 : ((some (([(x14_2) % 256] : List Int) : List Int)).bind fun yz28 => ((columbariumlaw08_pick.f a3 200).bind fun tz31 => (if 0 ≤ x14_2 then (if x14_2 < (l2.length : Int) then ((columbariumlaw08_pick.f (rd l2 x14_2) 2).bind fun tz36 => (if tz36 = 0 then ((ideal_Label.f kj26 xz15000_2 xz15001_2 xz15002_2 xz15003_2 xz15004_2 (strOfNums yz28)).bind fun btz37 => ((ideal_Label.f kj26 xz28000_2 xz28001_2 xz28002_2 xz28003_2 xz28004_2 (strOfNums (([(wrap64 ((wrap64 (x14_2 + 1)) + tz31)) % 256, 121] : List Int)))).bind fun btz48 => (if btz37.2.2.2.2.2.2 = 0 then (if btz48.2.2.2.2.2.2 = 0 then (if btz37.1.toList = btz48.1.toList then (if (!(btz37.2.1.toList == btz48.2.1.toList) || (!(btz37.2.2.1 == btz48.2.2.1))) = true then (none) else (columbariumlaw08_IdealHangs.l0 kj26 l2 a3 tz1 (wrap64 (x14_2 + 1)) btz37.2.1 btz37.2.2.1 btz37.2.2.2.1 btz37.2.2.2.2.1 btz37.2.2.2.2.2.1 btz48.2.1 btz48.2.2.1 btz48.2.2.2.1 btz48.2.2.2.2.1 btz48.2.2.2.2.2.1)) else (none)) else (none)) else (none)))) else (if 15 ≤ 281474976710656 then ((some (List.replicate 15 0 : List Int)).bind fun yz59 => (if (strOfNums yz28).size + (strOfNums yz59).size ≤ 9223372036854775807 then (if 24 ≤ 281474976710656 then ((ideal_Seal.f kj26 xz15000_2 xz15001_2 xz15002_2 xz15003_2 xz15004_2 ((strOfNums yz28) ++ (strOfNums yz59)) (strOfNums (List.replicate 24 0))).bind fun btz65 => ((some (List.replicate 15 0 : List Int)).bind fun yz76 => (if (strOfNums yz76).size + (strOfNums yz28).size ≤ 9223372036854775807 then (if 23 ≤ 281474976710656 then ((some (List.replicate 23 0 : List Int)).bind fun yz79 => (if (strOfNums yz28).size + (strOfNums yz79).size ≤ 9223372036854775807 then ((ideal_Seal.f kj26 xz28000_2 xz28001_2 xz28002_2 xz28003_2 xz28004_2 ((strOfNums yz76) ++ (strOfNums yz28)) ((strOfNums yz28) ++ (strOfNums yz79))).bind fun btz82 => (if btz65.2.2.2.2.2.2 = 0 then (if btz82.2.2.2.2.2.2 = 0 then (if btz65.1.toList = btz82.1.toList then (if (!(btz65.2.1.toList == btz82.2.1.toList) || (!(btz65.2.2.1 == btz82.2.2.1))) = true then (none) else (columbariumlaw08_IdealHangs.l0 kj26 l2 a3 tz1 (wrap64 (x14_2 + 1)) btz65.2.1 btz65.2.2.1 btz65.2.2.2.1 btz65.2.2.2.2.1 btz65.2.2.2.2.2.1 btz82.2.1 btz82.2.2.1 btz82.2.2.2.1 btz82.2.2.2.2.1 btz82.2.2.2.2.2.1)) else (none)) else (none)) else (none))) else (none))) else (none)) else (none)))) else (none)) else (none))) else (none)))) else (none)) else (none)))) = some r := by rw [if_pos rfl] at H; exact H
 clear H
 have H := H1
 clear H1
 obtain ⟨yz28, hyz28⟩ : ∃ y_ : List Int, y_ = (([(x14_2) % 256] : List Int)) := ⟨_, rfl⟩
 replace H : ((columbariumlaw08_pick.f a3 200).bind fun tz31 => (if 0 ≤ x14_2 then (if x14_2 < (l2.length : Int) then ((columbariumlaw08_pick.f (rd l2 x14_2) 2).bind fun tz36 => (if tz36 = 0 then ((ideal_Label.f kj26 xz15000_2 xz15001_2 xz15002_2 xz15003_2 xz15004_2 (strOfNums yz28)).bind fun btz37 => ((ideal_Label.f kj26 xz28000_2 xz28001_2 xz28002_2 xz28003_2 xz28004_2 (strOfNums (([(wrap64 ((wrap64 (x14_2 + 1)) + tz31)) % 256, 121] : List Int)))).bind fun btz48 => (if btz37.2.2.2.2.2.2 = 0 then (if btz48.2.2.2.2.2.2 = 0 then (if btz37.1.toList = btz48.1.toList then (if (!(btz37.2.1.toList == btz48.2.1.toList) || (!(btz37.2.2.1 == btz48.2.2.1))) = true then (none) else (columbariumlaw08_IdealHangs.l0 kj26 l2 a3 tz1 (wrap64 (x14_2 + 1)) btz37.2.1 btz37.2.2.1 btz37.2.2.2.1 btz37.2.2.2.2.1 btz37.2.2.2.2.2.1 btz48.2.1 btz48.2.2.1 btz48.2.2.2.1 btz48.2.2.2.2.1 btz48.2.2.2.2.2.1)) else (none)) else (none)) else (none)))) else (if 15 ≤ 281474976710656 then ((some (List.replicate 15 0 : List Int)).bind fun yz59 => (if (strOfNums yz28).size + (strOfNums yz59).size ≤ 9223372036854775807 then (if 24 ≤ 281474976710656 then ((ideal_Seal.f kj26 xz15000_2 xz15001_2 xz15002_2 xz15003_2 xz15004_2 ((strOfNums yz28) ++ (strOfNums yz59)) (strOfNums (List.replicate 24 0))).bind fun btz65 => ((some (List.replicate 15 0 : List Int)).bind fun yz76 => (if (strOfNums yz76).size + (strOfNums yz28).size ≤ 9223372036854775807 then (if 23 ≤ 281474976710656 then ((some (List.replicate 23 0 : List Int)).bind fun yz79 => (if (strOfNums yz28).size + (strOfNums yz79).size ≤ 9223372036854775807 then ((ideal_Seal.f kj26 xz28000_2 xz28001_2 xz28002_2 xz28003_2 xz28004_2 ((strOfNums yz76) ++ (strOfNums yz28)) ((strOfNums yz28) ++ (strOfNums yz79))).bind fun btz82 => (if btz65.2.2.2.2.2.2 = 0 then (if btz82.2.2.2.2.2.2 = 0 then (if btz65.1.toList = btz82.1.toList then (if (!(btz65.2.1.toList == btz82.2.1.toList) || (!(btz65.2.2.1 == btz82.2.2.1))) = true then (none) else (columbariumlaw08_IdealHangs.l0 kj26 l2 a3 tz1 (wrap64 (x14_2 + 1)) btz65.2.1 btz65.2.2.1 btz65.2.2.2.1 btz65.2.2.2.2.1 btz65.2.2.2.2.2.1 btz82.2.1 btz82.2.2.1 btz82.2.2.2.1 btz82.2.2.2.2.1 btz82.2.2.2.2.2.1)) else (none)) else (none)) else (none))) else (none))) else (none)) else (none)))) else (none)) else (none))) else (none)))) else (none)) else (none))) = some r := by first | (rw [hyz28]; with_reducible exact H) | (have H2_ := (Option.bind_some _ _).symm.trans H; rw [hyz28]; with_reducible exact H2_) | (have H2_ := (Option.bind_some _ _).symm.trans H; with_reducible exact H2_) | with_reducible exact H | (rw [hyz28]; exact H) | exact H
 have Nyz28 := am hyz28
 clear hyz28
 replace H := Option.bind_eq_some_iff.mp H
 obtain ⟨tz31, A300, H⟩ := H
 replace H : (if 0 ≤ x14_2 then (if x14_2 < (l2.length : Int) then ((columbariumlaw08_pick.f (rd l2 x14_2) 2).bind fun tz36 => (if tz36 = 0 then ((ideal_Label.f kj26 xz15000_2 xz15001_2 xz15002_2 xz15003_2 xz15004_2 (strOfNums yz28)).bind fun btz37 => ((ideal_Label.f kj26 xz28000_2 xz28001_2 xz28002_2 xz28003_2 xz28004_2 (strOfNums (([(wrap64 ((wrap64 (x14_2 + 1)) + tz31)) % 256, 121] : List Int)))).bind fun btz48 => (if btz37.2.2.2.2.2.2 = 0 then (if btz48.2.2.2.2.2.2 = 0 then (if btz37.1.toList = btz48.1.toList then (if (!(btz37.2.1.toList == btz48.2.1.toList) || (!(btz37.2.2.1 == btz48.2.2.1))) = true then (none) else (columbariumlaw08_IdealHangs.l0 kj26 l2 a3 tz1 (wrap64 (x14_2 + 1)) btz37.2.1 btz37.2.2.1 btz37.2.2.2.1 btz37.2.2.2.2.1 btz37.2.2.2.2.2.1 btz48.2.1 btz48.2.2.1 btz48.2.2.2.1 btz48.2.2.2.2.1 btz48.2.2.2.2.2.1)) else (none)) else (none)) else (none)))) else (if 15 ≤ 281474976710656 then ((some (List.replicate 15 0 : List Int)).bind fun yz59 => (if (strOfNums yz28).size + (strOfNums yz59).size ≤ 9223372036854775807 then (if 24 ≤ 281474976710656 then ((ideal_Seal.f kj26 xz15000_2 xz15001_2 xz15002_2 xz15003_2 xz15004_2 ((strOfNums yz28) ++ (strOfNums yz59)) (strOfNums (List.replicate 24 0))).bind fun btz65 => ((some (List.replicate 15 0 : List Int)).bind fun yz76 => (if (strOfNums yz76).size + (strOfNums yz28).size ≤ 9223372036854775807 then (if 23 ≤ 281474976710656 then ((some (List.replicate 23 0 : List Int)).bind fun yz79 => (if (strOfNums yz28).size + (strOfNums yz79).size ≤ 9223372036854775807 then ((ideal_Seal.f kj26 xz28000_2 xz28001_2 xz28002_2 xz28003_2 xz28004_2 ((strOfNums yz76) ++ (strOfNums yz28)) ((strOfNums yz28) ++ (strOfNums yz79))).bind fun btz82 => (if btz65.2.2.2.2.2.2 = 0 then (if btz82.2.2.2.2.2.2 = 0 then (if btz65.1.toList = btz82.1.toList then (if (!(btz65.2.1.toList == btz82.2.1.toList) || (!(btz65.2.2.1 == btz82.2.2.1))) = true then (none) else (columbariumlaw08_IdealHangs.l0 kj26 l2 a3 tz1 (wrap64 (x14_2 + 1)) btz65.2.1 btz65.2.2.1 btz65.2.2.2.1 btz65.2.2.2.2.1 btz65.2.2.2.2.2.1 btz82.2.1 btz82.2.2.1 btz82.2.2.2.1 btz82.2.2.2.2.1 btz82.2.2.2.2.2.1)) else (none)) else (none)) else (none))) else (none))) else (none)) else (none)))) else (none)) else (none))) else (none)))) else (none)) else (none)) = some r := H
 have A30 := Aside0.mk A300
 clear A300
 obtain ⟨yz32, hyz32⟩ : ∃ y_ : List Int, y_ = (([(wrap64 ((wrap64 (x14_2 + 1)) + tz31)) % 256, 121] : List Int)) := ⟨_, rfl⟩
 replace H : (if 0 ≤ x14_2 then (if x14_2 < (l2.length : Int) then ((columbariumlaw08_pick.f (rd l2 x14_2) 2).bind fun tz36 => (if tz36 = 0 then ((ideal_Label.f kj26 xz15000_2 xz15001_2 xz15002_2 xz15003_2 xz15004_2 (strOfNums yz28)).bind fun btz37 => ((ideal_Label.f kj26 xz28000_2 xz28001_2 xz28002_2 xz28003_2 xz28004_2 (strOfNums yz32)).bind fun btz48 => (if btz37.2.2.2.2.2.2 = 0 then (if btz48.2.2.2.2.2.2 = 0 then (if btz37.1.toList = btz48.1.toList then (if (!(btz37.2.1.toList == btz48.2.1.toList) || (!(btz37.2.2.1 == btz48.2.2.1))) = true then (none) else (columbariumlaw08_IdealHangs.l0 kj26 l2 a3 tz1 (wrap64 (x14_2 + 1)) btz37.2.1 btz37.2.2.1 btz37.2.2.2.1 btz37.2.2.2.2.1 btz37.2.2.2.2.2.1 btz48.2.1 btz48.2.2.1 btz48.2.2.2.1 btz48.2.2.2.2.1 btz48.2.2.2.2.2.1)) else (none)) else (none)) else (none)))) else (if 15 ≤ 281474976710656 then ((some (List.replicate 15 0 : List Int)).bind fun yz59 => (if (strOfNums yz28).size + (strOfNums yz59).size ≤ 9223372036854775807 then (if 24 ≤ 281474976710656 then ((ideal_Seal.f kj26 xz15000_2 xz15001_2 xz15002_2 xz15003_2 xz15004_2 ((strOfNums yz28) ++ (strOfNums yz59)) (strOfNums (List.replicate 24 0))).bind fun btz65 => ((some (List.replicate 15 0 : List Int)).bind fun yz76 => (if (strOfNums yz76).size + (strOfNums yz28).size ≤ 9223372036854775807 then (if 23 ≤ 281474976710656 then ((some (List.replicate 23 0 : List Int)).bind fun yz79 => (if (strOfNums yz28).size + (strOfNums yz79).size ≤ 9223372036854775807 then ((ideal_Seal.f kj26 xz28000_2 xz28001_2 xz28002_2 xz28003_2 xz28004_2 ((strOfNums yz76) ++ (strOfNums yz28)) ((strOfNums yz28) ++ (strOfNums yz79))).bind fun btz82 => (if btz65.2.2.2.2.2.2 = 0 then (if btz82.2.2.2.2.2.2 = 0 then (if btz65.1.toList = btz82.1.toList then (if (!(btz65.2.1.toList == btz82.2.1.toList) || (!(btz65.2.2.1 == btz82.2.2.1))) = true then (none) else (columbariumlaw08_IdealHangs.l0 kj26 l2 a3 tz1 (wrap64 (x14_2 + 1)) btz65.2.1 btz65.2.2.1 btz65.2.2.2.1 btz65.2.2.2.2.1 btz65.2.2.2.2.2.1 btz82.2.1 btz82.2.2.1 btz82.2.2.2.1 btz82.2.2.2.2.1 btz82.2.2.2.2.2.1)) else (none)) else (none)) else (none))) else (none))) else (none)) else (none)))) else (none)) else (none))) else (none)))) else (none)) else (none)) = some r := by first | (rw [hyz32]; with_reducible exact H) | (have H2_ := (Option.bind_some _ _).symm.trans H; rw [hyz32]; with_reducible exact H2_) | (have H2_ := (Option.bind_some _ _).symm.trans H; with_reducible exact H2_) | with_reducible exact H | (rw [hyz32]; exact H) | exact H
 have Nyz32 := am hyz32
 clear hyz32
 by_cases c31 : 0 ≤ x14_2
 rotate_left
 ·rw [if_neg c31] at H
  exact absurd H (by simp)
 rw [if_pos c31] at H
 have c31b0 : decide (0 ≤ x14_2) = true := decide_eq_true c31
 clear c31
 by_cases c32 : x14_2 < (l2.length : Int)
 rotate_left
 ·rw [if_neg c32] at H
  exact absurd H (by simp)
 rw [if_pos c32] at H
 have c32b0 : decide (x14_2 < (l2.length : Int)) = true := decide_eq_true c32
 clear c32
 replace H := Option.bind_eq_some_iff.mp H
 obtain ⟨tz36, A330, H⟩ := H
 replace H : (if tz36 = 0 then ((ideal_Label.f kj26 xz15000_2 xz15001_2 xz15002_2 xz15003_2 xz15004_2 (strOfNums yz28)).bind fun btz37 => ((ideal_Label.f kj26 xz28000_2 xz28001_2 xz28002_2 xz28003_2 xz28004_2 (strOfNums yz32)).bind fun btz48 => (if btz37.2.2.2.2.2.2 = 0 then (if btz48.2.2.2.2.2.2 = 0 then (if btz37.1.toList = btz48.1.toList then (if (!(btz37.2.1.toList == btz48.2.1.toList) || (!(btz37.2.2.1 == btz48.2.2.1))) = true then (none) else (columbariumlaw08_IdealHangs.l0 kj26 l2 a3 tz1 (wrap64 (x14_2 + 1)) btz37.2.1 btz37.2.2.1 btz37.2.2.2.1 btz37.2.2.2.2.1 btz37.2.2.2.2.2.1 btz48.2.1 btz48.2.2.1 btz48.2.2.2.1 btz48.2.2.2.2.1 btz48.2.2.2.2.2.1)) else (none)) else (none)) else (none)))) else (if 15 ≤ 281474976710656 then ((some (List.replicate 15 0 : List Int)).bind fun yz59 => (if (strOfNums yz28).size + (strOfNums yz59).size ≤ 9223372036854775807 then (if 24 ≤ 281474976710656 then ((ideal_Seal.f kj26 xz15000_2 xz15001_2 xz15002_2 xz15003_2 xz15004_2 ((strOfNums yz28) ++ (strOfNums yz59)) (strOfNums (List.replicate 24 0))).bind fun btz65 => ((some (List.replicate 15 0 : List Int)).bind fun yz76 => (if (strOfNums yz76).size + (strOfNums yz28).size ≤ 9223372036854775807 then (if 23 ≤ 281474976710656 then ((some (List.replicate 23 0 : List Int)).bind fun yz79 => (if (strOfNums yz28).size + (strOfNums yz79).size ≤ 9223372036854775807 then ((ideal_Seal.f kj26 xz28000_2 xz28001_2 xz28002_2 xz28003_2 xz28004_2 ((strOfNums yz76) ++ (strOfNums yz28)) ((strOfNums yz28) ++ (strOfNums yz79))).bind fun btz82 => (if btz65.2.2.2.2.2.2 = 0 then (if btz82.2.2.2.2.2.2 = 0 then (if btz65.1.toList = btz82.1.toList then (if (!(btz65.2.1.toList == btz82.2.1.toList) || (!(btz65.2.2.1 == btz82.2.2.1))) = true then (none) else (columbariumlaw08_IdealHangs.l0 kj26 l2 a3 tz1 (wrap64 (x14_2 + 1)) btz65.2.1 btz65.2.2.1 btz65.2.2.2.1 btz65.2.2.2.2.1 btz65.2.2.2.2.2.1 btz82.2.1 btz82.2.2.1 btz82.2.2.2.1 btz82.2.2.2.2.1 btz82.2.2.2.2.2.1)) else (none)) else (none)) else (none))) else (none))) else (none)) else (none)))) else (none)) else (none))) else (none))) = some r := H
 have A33 := Aside0.mk A330
 clear A330
 by_cases c34 : tz36 = 0
 ·rw [if_pos c34] at H
  have c34b0 : (tz36 == 0) = true := beq_iff_eq.mpr c34
  have c34b1 : (tz36 != 0) = false := bne_eq_false_iff_eq.mpr c34
  clear c34
  replace H := Option.bind_eq_some_iff.mp H
  obtain ⟨⟨tz37, tz38, tz39, tz40, tz43, tz46, tz47⟩, A350, H⟩ := H
  replace H : ((ideal_Label.f kj26 xz28000_2 xz28001_2 xz28002_2 xz28003_2 xz28004_2 (strOfNums yz32)).bind fun btz48 => (if tz47 = 0 then (if btz48.2.2.2.2.2.2 = 0 then (if tz37.toList = btz48.1.toList then (if (!(tz38.toList == btz48.2.1.toList) || (!(tz39 == btz48.2.2.1))) = true then (none) else (columbariumlaw08_IdealHangs.l0 kj26 l2 a3 tz1 (wrap64 (x14_2 + 1)) tz38 tz39 tz40 tz43 tz46 btz48.2.1 btz48.2.2.1 btz48.2.2.2.1 btz48.2.2.2.2.1 btz48.2.2.2.2.2.1)) else (none)) else (none)) else (none))) = some r := H
  have A35 := Aside0.mk A350
  clear A350
  replace H := Option.bind_eq_some_iff.mp H
  obtain ⟨⟨tz48, tz49, tz50, tz51, tz54, tz57, tz58⟩, A360, H⟩ := H
  replace H : (if tz47 = 0 then (if tz58 = 0 then (if tz37.toList = tz48.toList then (if (!(tz38.toList == tz49.toList) || (!(tz39 == tz50))) = true then (none) else (columbariumlaw08_IdealHangs.l0 kj26 l2 a3 tz1 (wrap64 (x14_2 + 1)) tz38 tz39 tz40 tz43 tz46 tz49 tz50 tz51 tz54 tz57)) else (none)) else (none)) else (none)) = some r := H
  have A36 := Aside0.mk A360
  clear A360
  by_cases c37 : tz47 = 0
  rotate_left
  ·rw [if_neg c37] at H
   exact absurd H (by simp)
  rw [if_pos c37] at H
  have c37b0 : (tz47 == 0) = true := beq_iff_eq.mpr c37
  have c37b1 : (tz47 != 0) = false := bne_eq_false_iff_eq.mpr c37
  clear c37
  by_cases c38 : tz58 = 0
  rotate_left
  ·rw [if_neg c38] at H
   exact absurd H (by simp)
  rw [if_pos c38] at H
  have c38b0 : (tz58 == 0) = true := beq_iff_eq.mpr c38
  have c38b1 : (tz58 != 0) = false := bne_eq_false_iff_eq.mpr c38
  clear c38
  by_cases c39 : tz37.toList = tz48.toList
  rotate_left
  ·rw [if_neg c39] at H
   exact absurd H (by simp)
  rw [if_pos c39] at H
  have c39b0 : (tz37.toList == tz48.toList) = true := beq_iff_eq.mpr c39
  have c39b1 : (tz37.toList != tz48.toList) = false := bne_eq_false_iff_eq.mpr c39
  clear c39
  by_cases c40 : (!(tz38.toList == tz49.toList) || (!(tz39 == tz50))) = true
  ·rw [if_pos c40] at H
   exact absurd H (by simp)
  rw [if_neg c40] at H
  have c40b0 : (!(tz38.toList == tz49.toList) || (!(tz39 == tz50))) = false := by simpa using c40
  clear c40
  have H' := am H
  clear H
  go_wp2_with (first | ((with_reducible refine gate_dst (N := 52) rfl ?_); refine Kd.R_lit (Kd.int .u8) _ 5 ?hg (N := 52) ?hd (xs := ([(x14_2) % 256] : List Int)) (inner := [.int .u8 ((x14_2) % 256)]) (ok := fun _ => True) (okp := fun _ => True) ?hr ?hp (fun _ hk => hk) trivial (Below.refl _ _) (Nat.le_refl _) (by simp) ?_; (case hd => rfl); (case hg => rfl); (case hr => first | (go_simp; done) | (go_simp; rfl)); (case hp => exact (Reps.one (show Kd.M (Kd.int .u8) _ _ _ ((x14_2) % 256) [.int .u8 ((x14_2) % 256)] from rfl) (Reps.none _ _))); intro vz29 w41 ho42 hb hg_ hnew_; clear hg_ hnew_; (first | rw [← Nyz28.out] at ho42 | (simp only [Int.reduceToNat] at ho42; rw [← Nyz28.out] at ho42)); have n0_ := am (Kd.R_below (pr HO_z15002) hb); have n1_ := am (Kd.R_below (pr HO_z15003) hb); have n2_ := am (Kd.R_below (pr HO_z28002) hb); have n3_ := am (Kd.R_below (pr HO_z28003) hb); have n4_ := am (Kd.R_lower ho42 (below_size (by repeat (first | (with_reducible first | exact HB.out | apply below_alloc | apply pw_below_drewN | apply below_drew1 | refine below_set ?_ GEz14.out | refine below_set ?_ GEz27.out) | exact HB.out)))); have n5_ := am (blk_below (pk BKz14) hb); have n6_ := am (blk_below (pk BKz27) hb); have n7_ := am (below_step (by repeat (first | (with_reducible first | exact HB.out | apply below_alloc | apply pw_below_drewN | apply below_drew1 | refine below_set ?_ GEz14.out | refine below_set ?_ GEz27.out) | exact HB.out)) hb); clear HO_z15002; clear HO_z15003; clear HO_z28002; clear HO_z28003; clear BKz14; clear BKz27; clear HB; have HO_z15002 := n0_; have HO_z15003 := n1_; have HO_z28002 := n2_; have HO_z28003 := n3_; have HOz30 := n4_; have BKz14 := n5_; have BKz27 := n6_; have HB := n7_; clear n0_ n1_ n2_ n3_ n4_ n5_ n6_ n7_; clear hb ho42; have hcv43 := own_string (P := Try.prog) Try.underlying57 Try.underlying5 Try.underlying9 (Kd.own_of_R HOz30.out)) | ((with_reducible refine gate_callee (f := 34) rfl ?_); refine goesL_ (some 57) rfl rfl Try.func34 (by kernel_rfl) rfl #[.int .i64 a3, .int .i64 200] rfl (by (try simp only [List.map_toArray, List.map_cons, List.map_nil]); first | done | rfl | (simp only [List.length_drop, List.length_take]; rfl)) ?_; (with_reducible refine (columbariumlaw08_pick.calls a3 200 tz31 _ A30.out).mono ?_); rintro e w' ⟨rfl, ⟨nd, rfl⟩⟩; refine ⟨_, rfl, ?_⟩; (try (rw [drewN_self w41]; generalize hq_ : World.drewN w41 _ = w41; have n0_ : Aside0 (Kd.R (Kd.int .u8) 5 w41 w.heap.size (fun _ => True) vz29 yz28) := ⟨by rw [← hq_]; exact (pr HOz30)⟩; have n1_ : Aside0 (Kd.R k72 72 w41 w.heap.size (fun k_ => some k_ ≠ (uz28002 : Value).ownBlock) uz15002 xz15002_2) := ⟨by rw [← hq_]; exact (pr HO_z15002)⟩; have n2_ : Aside0 (Kd.R k74 74 w41 w.heap.size (fun k_ => some k_ ≠ (uz28003 : Value).ownBlock) uz15003 xz15003_2) := ⟨by rw [← hq_]; exact (pr HO_z15003)⟩; have n3_ : Aside0 (Kd.R k72 72 w41 w.heap.size (fun k_ => some k_ ≠ (uz15002 : Value).ownBlock) uz28002 xz28002_2) := ⟨by rw [← hq_]; exact (pr HO_z28002)⟩; have n4_ : Aside0 (Kd.R k74 74 w41 w.heap.size (fun k_ => some k_ ≠ (uz15003 : Value).ownBlock) uz28003 xz28003_2) := ⟨by rw [← hq_]; exact (pr HO_z28003)⟩; have n5_ : Aside0 (w41.heap[gbz14]? = some (.cells #[.string xz15000_2, .int .i64 xz15001_2, uz15002, uz15003, .bool xz15004_2] 50 (0, 0))) := ⟨by rw [← hq_]; exact (pk BKz14)⟩; have n6_ : Aside0 (w41.heap[gbz27]? = some (.cells #[.string xz28000_2, .int .i64 xz28001_2, uz28002, uz28003, .bool xz28004_2] 50 (0, 0))) := ⟨by rw [← hq_]; exact (pk BKz27)⟩; have n7_ : Aside0 (Below w.heap.size w w41) := ⟨by rw [← hq_]; exact (by repeat (first | (with_reducible first | exact HB.out | apply below_alloc | apply pw_below_drewN | apply below_drew1 | refine below_set ?_ GEz14.out | refine below_set ?_ GEz27.out) | exact HB.out))⟩; clear HOz30 HO_z15002 HO_z15003 HO_z28002 HO_z28003 BKz14 BKz27 HB hq_; have HOz30 := n0_; have HO_z15002 := n1_; have HO_z15003 := n2_; have HO_z28002 := n3_; have HO_z28003 := n4_; have BKz14 := n5_; have BKz27 := n6_; have HB := n7_; clear n0_ n1_ n2_ n3_ n4_ n5_ n6_ n7_))) | ((with_reducible refine gate_dst (N := 60) rfl ?_); refine Kd.R_lit (Kd.int .u8) _ 5 ?hg (N := 60) ?hd (xs := ([(wrap64 ((wrap64 (x14_2 + 1)) + tz31)) % 256, 121] : List Int)) (inner := [.int .u8 ((wrap64 ((wrap64 (x14_2 + 1)) + tz31)) % 256), .int .u8 121]) (ok := fun _ => True) (okp := fun _ => True) ?hr ?hp (fun _ hk => hk) trivial (Below.refl _ _) (Nat.le_refl _) (by simp) ?_; (case hd => rfl); (case hg => rfl); (case hr => first | (go_simp; done) | (go_simp; rfl)); (case hp => exact (Reps.one (show Kd.M (Kd.int .u8) _ _ _ ((wrap64 ((wrap64 (x14_2 + 1)) + tz31)) % 256) [.int .u8 ((wrap64 ((wrap64 (x14_2 + 1)) + tz31)) % 256)] from rfl) (Reps.one (show Kd.M (Kd.int .u8) _ _ _ 121 [.int .u8 121] from rfl) (Reps.none _ _)))); intro vz33 w44 ho45 hb hg_ hnew_; clear hg_ hnew_; (first | rw [← Nyz32.out] at ho45 | (simp only [Int.reduceToNat] at ho45; rw [← Nyz32.out] at ho45)); have n0_ := am (Kd.R_below (pr HO_z15002) hb); have n1_ := am (Kd.R_below (pr HO_z15003) hb); have n2_ := am (Kd.R_below (pr HO_z28002) hb); have n3_ := am (Kd.R_below (pr HO_z28003) hb); have n4_ := am (Kd.R_elder' (pr HOz30) (Kd.R_base ho45) hb); have n5_ := am (Kd.R_lower (Kd.R_new' ho45 (Kd.R_lt (pr HOz30))) (below_size (by repeat (first | (with_reducible first | exact HB.out | apply below_alloc | apply pw_below_drewN | apply below_drew1 | refine below_set ?_ GEz14.out | refine below_set ?_ GEz27.out) | exact HB.out)))); have n6_ := am (blk_below (pk BKz14) hb); have n7_ := am (blk_below (pk BKz27) hb); have n8_ := am (below_step (by repeat (first | (with_reducible first | exact HB.out | apply below_alloc | apply pw_below_drewN | apply below_drew1 | refine below_set ?_ GEz14.out | refine below_set ?_ GEz27.out) | exact HB.out)) hb); clear HO_z15002; clear HO_z15003; clear HO_z28002; clear HO_z28003; clear HOz30; clear BKz14; clear BKz27; clear HB; have HO_z15002 := n0_; have HO_z15003 := n1_; have HO_z28002 := n2_; have HO_z28003 := n3_; have HOz30 := n4_; have HOz34 := n5_; have BKz14 := n6_; have BKz27 := n7_; have HB := n8_; clear n0_ n1_ n2_ n3_ n4_ n5_ n6_ n7_ n8_; clear hb ho45; have hcv46 := own_string (P := Try.prog) Try.underlying57 Try.underlying5 Try.underlying9 (Kd.own_of_R HOz34.out); have pz35 : 0 ≤ (x14_2 : Int) := of_decide_eq_true (by first | (with_reducible assumption) | assumption); have qz35 : x14_2 < (l2.length : Int) := of_decide_eq_true (by first | (with_reducible assumption) | assumption); obtain ⟨adz35, ez35, hxz35_0⟩ := Kd.at_int HR2.out x14_2 pz35 qz35; cases ez35; replace hxz35_0 := (HB.out.cell (World.block_lt_of_cell? w _ hxz35_0)).trans hxz35_0; replace pz35 := eq_true pz35; replace qz35 := eq_true qz35) | ((with_reducible refine gate_callee (f := 34) rfl ?_); refine goesL_ (some 66) rfl rfl Try.func34 (by kernel_rfl) rfl #[.int .i64 (rd l2 x14_2), .int .i64 2] rfl (by (try simp only [List.map_toArray, List.map_cons, List.map_nil]); first | done | rfl | (simp only [List.length_drop, List.length_take]; rfl)) ?_; (with_reducible refine (columbariumlaw08_pick.calls (rd l2 x14_2) 2 tz36 _ A33.out).mono ?_); rintro e w' ⟨rfl, ⟨nd, rfl⟩⟩; refine ⟨_, rfl, ?_⟩; (try (rw [drewN_self w44]; generalize hq_ : World.drewN w44 _ = w44; have n0_ : Aside0 (Kd.R (Kd.int .u8) 5 w44 w.heap.size (fun k_ => some k_ ≠ (vz33 : Value).ownBlock) vz29 yz28) := ⟨by rw [← hq_]; exact (pm HOz30 (fun _ hk => hk.2))⟩; have n1_ : Aside0 (Kd.R (Kd.int .u8) 5 w44 w.heap.size (fun k_ => some k_ ≠ (vz29 : Value).ownBlock) vz33 yz32) := ⟨by rw [← hq_]; exact (pm HOz34 (fun _ hk => hk.2))⟩; have n2_ : Aside0 (Kd.R k72 72 w44 w.heap.size (fun k_ => some k_ ≠ (uz28002 : Value).ownBlock) uz15002 xz15002_2) := ⟨by rw [← hq_]; exact (pr HO_z15002)⟩; have n3_ : Aside0 (Kd.R k74 74 w44 w.heap.size (fun k_ => some k_ ≠ (uz28003 : Value).ownBlock) uz15003 xz15003_2) := ⟨by rw [← hq_]; exact (pr HO_z15003)⟩; have n4_ : Aside0 (Kd.R k72 72 w44 w.heap.size (fun k_ => some k_ ≠ (uz15002 : Value).ownBlock) uz28002 xz28002_2) := ⟨by rw [← hq_]; exact (pr HO_z28002)⟩; have n5_ : Aside0 (Kd.R k74 74 w44 w.heap.size (fun k_ => some k_ ≠ (uz15003 : Value).ownBlock) uz28003 xz28003_2) := ⟨by rw [← hq_]; exact (pr HO_z28003)⟩; have n6_ : Aside0 (w44.heap[gbz14]? = some (.cells #[.string xz15000_2, .int .i64 xz15001_2, uz15002, uz15003, .bool xz15004_2] 50 (0, 0))) := ⟨by rw [← hq_]; exact (pk BKz14)⟩; have n7_ : Aside0 (w44.heap[gbz27]? = some (.cells #[.string xz28000_2, .int .i64 xz28001_2, uz28002, uz28003, .bool xz28004_2] 50 (0, 0))) := ⟨by rw [← hq_]; exact (pk BKz27)⟩; have n8_ : Aside0 (Below w.heap.size w w44) := ⟨by rw [← hq_]; exact (by repeat (first | (with_reducible first | exact HB.out | apply below_alloc | apply pw_below_drewN | apply below_drew1 | refine below_set ?_ GEz14.out | refine below_set ?_ GEz27.out) | exact HB.out))⟩; clear HOz30 HOz34 HO_z15002 HO_z15003 HO_z28002 HO_z28003 BKz14 BKz27 HB hq_; have HOz30 := n0_; have HOz34 := n1_; have HO_z15002 := n2_; have HO_z15003 := n3_; have HO_z28002 := n4_; have HO_z28003 := n5_; have BKz14 := n6_; have BKz27 := n7_; have HB := n8_; clear n0_ n1_ n2_ n3_ n4_ n5_ n6_ n7_ n8_)); have hnb47 := NBz14_z27.out; have hnc47 := NBz27_z14.out; have hcz48_0 : w44.cell? ⟨gbz14, 0, none⟩ = some (.string xz15000_2) := (blk_cell BKz14.out 0).trans rfl; have hcz48_1 : w44.cell? ⟨gbz14, 1, none⟩ = some (.int .i64 xz15001_2) := (blk_cell BKz14.out 1).trans rfl; have hcz48_2 : w44.cell? ⟨gbz14, 2, none⟩ = some (uz15002) := (blk_cell BKz14.out 2).trans rfl; have hcz48_3 : w44.cell? ⟨gbz14, 3, none⟩ = some (uz15003) := (blk_cell BKz14.out 3).trans rfl; have hcz48_4 : w44.cell? ⟨gbz14, 4, none⟩ = some (.bool xz15004_2) := (blk_cell BKz14.out 4).trans rfl; have hfz48_0 := blk_frozen BKz14.out 0; have hfz48_1 := blk_frozen BKz14.out 1; have hfz48_2 := blk_frozen BKz14.out 2; have hfz48_3 := blk_frozen BKz14.out 3; have hfz48_4 := blk_frozen BKz14.out 4; obtain ⟨Ao49, co49, eo49⟩ := Kd.R_slice HO_z15002.out; subst eo49; obtain ⟨Ao50, co50, eo50⟩ := Kd.R_slice HO_z15003.out; subst eo50) | ((with_reducible refine gate_callee (f := 35) rfl ?_); refine goesL_ (some 71) rfl rfl Try.func35 (by kernel_rfl) rfl #[.agg #[.string xz15000_2, .int .i64 xz15001_2, .slice Ao49 xz15002_2.length co49, .slice Ao50 xz15003_2.length co50, .bool xz15004_2], .string (strOfNums yz28)] rfl (by (try simp only [List.map_toArray, List.map_cons, List.map_nil]); first | done | rfl | (simp only [List.length_drop, List.length_take]; rfl)) ?_; (with_reducible refine (ideal_Label.calls kj26 xz15000_2 xz15001_2 _ _ xz15002_2 _ _ xz15003_2 xz15004_2 (strOfNums yz28) tz37 tz38 tz39 tz40 tz43 tz46 tz47 _ ?side1 ?side2 ?side3 ?side4 A35.out).mono ?_); (case side1 => repeat (first | exact (Kd.R_reads' HO_z15002.out).2.2 | (with_reducible refine Kd.C_alloc ?_ _) | (with_reducible refine Kd.C_drewN ?_ _) | (with_reducible refine Kd.C_drew ?_))); (case side2 => exact (Kd.R_reads' HO_z15002.out).2.1); (case side3 => repeat (first | exact (Kd.R_reads' HO_z15003.out).2.2 | (with_reducible refine Kd.C_alloc ?_ _) | (with_reducible refine Kd.C_drewN ?_ _) | (with_reducible refine Kd.C_drew ?_))); (case side4 => exact (Kd.R_reads' HO_z15003.out).2.1); rintro e w51 ⟨vz41, vz44, rfl, ho0, ho1, hb⟩; refine ⟨_, rfl, ?_⟩; have n0_ := am (Kd.R_elder' (pr HO_z15002) (Kd.R_base ho0) hb); have n1_ := am (Kd.R_elder' (pr HO_z15003) (Kd.R_base ho1) hb); have n2_ := am (Kd.R_elder' (pr HO_z28002) (Kd.R_base ho0) hb); have n3_ := am (Kd.R_elder' (pr HO_z28003) (Kd.R_base ho1) hb); have n4_ := am (Kd.R_below (pr HOz30) hb); have n5_ := am (Kd.R_below (pr HOz34) hb); have n6_ := am (Kd.R_lower (Kd.R_new' (Kd.R_new' ho0 (Kd.R_lt (pr HO_z15002))) (Kd.R_lt (pr HO_z28002))) (below_size (by repeat (first | (with_reducible first | exact HB.out | apply below_alloc | apply pw_below_drewN | apply below_drew1 | refine below_set ?_ GEz14.out | refine below_set ?_ GEz27.out) | exact HB.out)))); have n7_ := am (Kd.R_lower (Kd.R_new' (Kd.R_new' ho1 (Kd.R_lt (pr HO_z15003))) (Kd.R_lt (pr HO_z28003))) (below_size (by repeat (first | (with_reducible first | exact HB.out | apply below_alloc | apply pw_below_drewN | apply below_drew1 | refine below_set ?_ GEz14.out | refine below_set ?_ GEz27.out) | exact HB.out)))); have n8_ := am (blk_below (pk BKz14) hb); have n9_ := am (blk_below (pk BKz27) hb); have n10_ := am (below_step (by repeat (first | (with_reducible first | exact HB.out | apply below_alloc | apply pw_below_drewN | apply below_drew1 | refine below_set ?_ GEz14.out | refine below_set ?_ GEz27.out) | exact HB.out)) hb); clear HO_z15002; clear HO_z15003; clear HO_z28002; clear HO_z28003; clear HOz30; clear HOz34; clear BKz14; clear BKz27; clear HB; have HO_z15002 := n0_; have HO_z15003 := n1_; have HO_z28002 := n2_; have HO_z28003 := n3_; have HOz30 := n4_; have HOz34 := n5_; have HOz42 := n6_; have HOz45 := n7_; have BKz14 := n8_; have BKz27 := n9_; have HB := n10_; clear n0_ n1_ n2_ n3_ n4_ n5_ n6_ n7_ n8_ n9_ n10_; (try clear hb); (try clear hb2); (try clear hk); (try clear hi); (try clear ho0); (try clear ho1); have hcz52_0 : w51.cell? ⟨gbz14, 0, none⟩ = some (.string xz15000_2) := (blk_cell BKz14.out 0).trans rfl; have hcz52_1 : w51.cell? ⟨gbz14, 1, none⟩ = some (.int .i64 xz15001_2) := (blk_cell BKz14.out 1).trans rfl; have hcz52_2 : w51.cell? ⟨gbz14, 2, none⟩ = some (.slice Ao49 xz15002_2.length co49) := (blk_cell BKz14.out 2).trans rfl; have hcz52_3 : w51.cell? ⟨gbz14, 3, none⟩ = some (.slice Ao50 xz15003_2.length co50) := (blk_cell BKz14.out 3).trans rfl; have hcz52_4 : w51.cell? ⟨gbz14, 4, none⟩ = some (.bool xz15004_2) := (blk_cell BKz14.out 4).trans rfl; have hfz52_0 := blk_frozen BKz14.out 0; have hfz52_1 := blk_frozen BKz14.out 1; have hfz52_2 := blk_frozen BKz14.out 2; have hfz52_3 := blk_frozen BKz14.out 3; have hfz52_4 := blk_frozen BKz14.out 4; obtain ⟨Ao53, co53, eo53⟩ := Kd.R_slice HOz42.out; subst eo53; obtain ⟨Ao54, co54, eo54⟩ := Kd.R_slice HOz45.out; subst eo54; have hcz55_0 : w51.cell? ⟨gbz27, 0, none⟩ = some (.string xz28000_2) := (blk_cell BKz27.out 0).trans rfl; have hcz55_1 : w51.cell? ⟨gbz27, 1, none⟩ = some (.int .i64 xz28001_2) := (blk_cell BKz27.out 1).trans rfl; have hcz55_2 : w51.cell? ⟨gbz27, 2, none⟩ = some (uz28002) := (blk_cell BKz27.out 2).trans rfl; have hcz55_3 : w51.cell? ⟨gbz27, 3, none⟩ = some (uz28003) := (blk_cell BKz27.out 3).trans rfl; have hcz55_4 : w51.cell? ⟨gbz27, 4, none⟩ = some (.bool xz28004_2) := (blk_cell BKz27.out 4).trans rfl; have hfz55_0 := blk_frozen BKz27.out 0; have hfz55_1 := blk_frozen BKz27.out 1; have hfz55_2 := blk_frozen BKz27.out 2; have hfz55_3 := blk_frozen BKz27.out 3; have hfz55_4 := blk_frozen BKz27.out 4; obtain ⟨Ao56, co56, eo56⟩ := Kd.R_slice HO_z28002.out; subst eo56; obtain ⟨Ao57, co57, eo57⟩ := Kd.R_slice HO_z28003.out; subst eo57) | ((with_reducible refine gate_callee (f := 35) rfl ?_); refine goesL_ (some 78) rfl rfl Try.func35 (by kernel_rfl) rfl #[.agg #[.string xz28000_2, .int .i64 xz28001_2, .slice Ao56 xz28002_2.length co56, .slice Ao57 xz28003_2.length co57, .bool xz28004_2], .string (strOfNums yz32)] rfl (by (try simp only [List.map_toArray, List.map_cons, List.map_nil]); first | done | rfl | (simp only [List.length_drop, List.length_take]; rfl)) ?_; (with_reducible refine (ideal_Label.calls kj26 xz28000_2 xz28001_2 _ _ xz28002_2 _ _ xz28003_2 xz28004_2 (strOfNums yz32) tz48 tz49 tz50 tz51 tz54 tz57 tz58 _ ?side1 ?side2 ?side3 ?side4 A36.out).mono ?_); (case side1 => refine (Kd.R_reads' (e := 72) (base := w.heap.size) (ok := fun k_ => (some k_ ≠ (.slice Ao49 xz15002_2.length co49 : Value).ownBlock ∧ some k_ ≠ (.slice Ao53 tz40.length co53 : Value).ownBlock)) (n := xz28002_2.length) (c := co56) ?_).2.2; exact (by (with_reducible repeat (first | apply Kd.R_alloc | apply Kd.R_drewN | apply Kd.R_drew)); exact (Kd.R_mono (rf5 (Kd.R_types HO_z28002.out BKz14.out (by decide)) (fun _ hk => hk.2)) (fun _ h_ => h_.1)))); (case side2 => exact (Kd.R_reads' HO_z28002.out).2.1); (case side3 => refine (Kd.R_reads' (e := 74) (base := w.heap.size) (ok := fun k_ => (some k_ ≠ (.slice Ao50 xz15003_2.length co50 : Value).ownBlock ∧ some k_ ≠ (.slice Ao54 tz43.length co54 : Value).ownBlock)) (n := xz28003_2.length) (c := co57) ?_).2.2; exact (by (with_reducible repeat (first | apply Kd.R_alloc | apply Kd.R_drewN | apply Kd.R_drew)); exact (Kd.R_mono (rf5 (Kd.R_types HO_z28003.out BKz14.out (by decide)) (fun _ hk => hk.2)) (fun _ h_ => h_.1)))); (case side4 => exact (Kd.R_reads' HO_z28003.out).2.1); rintro e w58 ⟨vz52, vz55, rfl, ho0, ho1, hb⟩; refine ⟨_, rfl, ?_⟩; have n0_ := am (Kd.R_elder' (by (with_reducible repeat (first | apply Kd.R_alloc | apply Kd.R_drewN | apply Kd.R_drew)); exact (Kd.R_mono (rf5 (Kd.R_types HO_z15002.out BKz14.out (by decide)) (fun _ hk => hk.2)) (fun _ h_ => h_.1))) (Kd.R_base ho0) hb); have n1_ := am (Kd.R_elder' (by (with_reducible repeat (first | apply Kd.R_alloc | apply Kd.R_drewN | apply Kd.R_drew)); exact (Kd.R_mono (rf5 (Kd.R_types HO_z15003.out BKz14.out (by decide)) (fun _ hk => hk.2)) (fun _ h_ => h_.1))) (Kd.R_base ho1) hb); have n2_ := am (Kd.R_elder' (by (with_reducible repeat (first | apply Kd.R_alloc | apply Kd.R_drewN | apply Kd.R_drew)); exact (Kd.R_mono (rf5 (Kd.R_types HO_z28002.out BKz14.out (by decide)) (fun _ hk => hk.2)) (fun _ h_ => h_.1))) (Kd.R_base ho0) hb); have n3_ := am (Kd.R_elder' (by (with_reducible repeat (first | apply Kd.R_alloc | apply Kd.R_drewN | apply Kd.R_drew)); exact (Kd.R_mono (rf5 (Kd.R_types HO_z28003.out BKz14.out (by decide)) (fun _ hk => hk.2)) (fun _ h_ => h_.1))) (Kd.R_base ho1) hb); have n4_ := am (Kd.R_below (by (with_reducible repeat (first | apply Kd.R_alloc | apply Kd.R_drewN | apply Kd.R_drew)); exact (Kd.R_mono (rf5 (Kd.R_types HOz30.out BKz14.out (by decide)) (fun _ hk => hk.2)) (fun _ h_ => h_.1))) hb); have n5_ := am (Kd.R_below (by (with_reducible repeat (first | apply Kd.R_alloc | apply Kd.R_drewN | apply Kd.R_drew)); exact (Kd.R_mono (rf5 (Kd.R_types HOz34.out BKz14.out (by decide)) (fun _ hk => hk.2)) (fun _ h_ => h_.1))) hb); have n6_ := am (Kd.R_elder' (by (with_reducible repeat (first | apply Kd.R_alloc | apply Kd.R_drewN | apply Kd.R_drew)); exact (Kd.R_mono (rf5 (Kd.R_types HOz42.out BKz14.out (by decide)) (fun _ hk => hk.2)) (fun _ h_ => h_.1))) (Kd.R_base ho0) hb); have n7_ := am (Kd.R_elder' (by (with_reducible repeat (first | apply Kd.R_alloc | apply Kd.R_drewN | apply Kd.R_drew)); exact (Kd.R_mono (rf5 (Kd.R_types HOz45.out BKz14.out (by decide)) (fun _ hk => hk.2)) (fun _ h_ => h_.1))) (Kd.R_base ho1) hb); have n8_ := am (Kd.R_lower (Kd.R_new' (Kd.R_new' (Kd.R_new' ho0 (Kd.R_lt (by (with_reducible repeat (first | apply Kd.R_alloc | apply Kd.R_drewN | apply Kd.R_drew)); exact (Kd.R_mono (rf5 (Kd.R_types HO_z15002.out BKz14.out (by decide)) (fun _ hk => hk.2)) (fun _ h_ => h_.1))))) (Kd.R_lt (by (with_reducible repeat (first | apply Kd.R_alloc | apply Kd.R_drewN | apply Kd.R_drew)); exact (Kd.R_mono (rf5 (Kd.R_types HO_z28002.out BKz14.out (by decide)) (fun _ hk => hk.2)) (fun _ h_ => h_.1))))) (Kd.R_lt (by (with_reducible repeat (first | apply Kd.R_alloc | apply Kd.R_drewN | apply Kd.R_drew)); exact (Kd.R_mono (rf5 (Kd.R_types HOz42.out BKz14.out (by decide)) (fun _ hk => hk.2)) (fun _ h_ => h_.1))))) (below_size (by repeat (first | (with_reducible first | exact HB.out | apply below_alloc | apply pw_below_drewN | apply below_drew1 | refine below_set ?_ GEz14.out | refine below_set ?_ GEz27.out) | exact HB.out)))); have n9_ := am (Kd.R_lower (Kd.R_new' (Kd.R_new' (Kd.R_new' ho1 (Kd.R_lt (by (with_reducible repeat (first | apply Kd.R_alloc | apply Kd.R_drewN | apply Kd.R_drew)); exact (Kd.R_mono (rf5 (Kd.R_types HO_z15003.out BKz14.out (by decide)) (fun _ hk => hk.2)) (fun _ h_ => h_.1))))) (Kd.R_lt (by (with_reducible repeat (first | apply Kd.R_alloc | apply Kd.R_drewN | apply Kd.R_drew)); exact (Kd.R_mono (rf5 (Kd.R_types HO_z28003.out BKz14.out (by decide)) (fun _ hk => hk.2)) (fun _ h_ => h_.1))))) (Kd.R_lt (by (with_reducible repeat (first | apply Kd.R_alloc | apply Kd.R_drewN | apply Kd.R_drew)); exact (Kd.R_mono (rf5 (Kd.R_types HOz45.out BKz14.out (by decide)) (fun _ hk => hk.2)) (fun _ h_ => h_.1))))) (below_size (by repeat (first | (with_reducible first | exact HB.out | apply below_alloc | apply pw_below_drewN | apply below_drew1 | refine below_set ?_ GEz14.out | refine below_set ?_ GEz27.out) | exact HB.out)))); have n10_ := am (blk_below (g := gbz14) (o := .cells #[.string tz38, .int .i64 tz39, .slice Ao53 tz40.length co53, .slice Ao54 tz43.length co54, .bool tz46] 50 (0, 0)) (by (with_reducible repeat (first | refine blk_drewN ?_ _ | refine blk_drew ?_ | refine blk_alloc ?_ _)); refine blk_put (cs := #[.string tz38, .int .i64 tz39, .slice Ao53 tz40.length co53, .slice Ao54 tz43.length co54, .bool xz15004_2]) ?_ 4 _ rfl; (with_reducible repeat (first | refine blk_drewN ?_ _ | refine blk_drew ?_ | refine blk_alloc ?_ _)); refine blk_put (cs := #[.string tz38, .int .i64 tz39, .slice Ao53 tz40.length co53, .slice Ao50 xz15003_2.length co50, .bool xz15004_2]) ?_ 3 _ rfl; (with_reducible repeat (first | refine blk_drewN ?_ _ | refine blk_drew ?_ | refine blk_alloc ?_ _)); refine blk_put (cs := #[.string tz38, .int .i64 tz39, .slice Ao49 xz15002_2.length co49, .slice Ao50 xz15003_2.length co50, .bool xz15004_2]) ?_ 2 _ rfl; (with_reducible repeat (first | refine blk_drewN ?_ _ | refine blk_drew ?_ | refine blk_alloc ?_ _)); refine blk_put (cs := #[.string tz38, .int .i64 xz15001_2, .slice Ao49 xz15002_2.length co49, .slice Ao50 xz15003_2.length co50, .bool xz15004_2]) ?_ 1 _ rfl; (with_reducible repeat (first | refine blk_drewN ?_ _ | refine blk_drew ?_ | refine blk_alloc ?_ _)); refine blk_put (cs := #[.string xz15000_2, .int .i64 xz15001_2, .slice Ao49 xz15002_2.length co49, .slice Ao50 xz15003_2.length co50, .bool xz15004_2]) ?_ 0 _ rfl; (with_reducible repeat (first | refine blk_drewN ?_ _ | refine blk_drew ?_ | refine blk_alloc ?_ _)); exact BKz14.out) hb); have n11_ := am (blk_below (g := gbz27) (o := .cells #[.string xz28000_2, .int .i64 xz28001_2, .slice Ao56 xz28002_2.length co56, .slice Ao57 xz28003_2.length co57, .bool xz28004_2] 50 (0, 0)) (by (with_reducible repeat (first | refine blk_drewN ?_ _ | refine blk_drew ?_ | refine blk_alloc ?_ _)); refine blk_far ?_ NBz27_z14.out _; (with_reducible repeat (first | refine blk_drewN ?_ _ | refine blk_drew ?_ | refine blk_alloc ?_ _)); refine blk_far ?_ NBz27_z14.out _; (with_reducible repeat (first | refine blk_drewN ?_ _ | refine blk_drew ?_ | refine blk_alloc ?_ _)); refine blk_far ?_ NBz27_z14.out _; (with_reducible repeat (first | refine blk_drewN ?_ _ | refine blk_drew ?_ | refine blk_alloc ?_ _)); refine blk_far ?_ NBz27_z14.out _; (with_reducible repeat (first | refine blk_drewN ?_ _ | refine blk_drew ?_ | refine blk_alloc ?_ _)); refine blk_far ?_ NBz27_z14.out _; (with_reducible repeat (first | refine blk_drewN ?_ _ | refine blk_drew ?_ | refine blk_alloc ?_ _)); exact BKz27.out) hb); have n12_ := am (below_step (by repeat (first | (with_reducible first | exact HB.out | apply below_alloc | apply pw_below_drewN | apply below_drew1 | refine below_set ?_ GEz14.out | refine below_set ?_ GEz27.out) | exact HB.out)) hb); clear HO_z15002; clear HO_z15003; clear HO_z28002; clear HO_z28003; clear HOz30; clear HOz34; clear HOz42; clear HOz45; clear BKz14; clear BKz27; clear HB; have HO_z15002 := n0_; have HO_z15003 := n1_; have HO_z28002 := n2_; have HO_z28003 := n3_; have HOz30 := n4_; have HOz34 := n5_; have HOz42 := n6_; have HOz45 := n7_; have HOz53 := n8_; have HOz56 := n9_; have BKz14 := n10_; have BKz27 := n11_; have HB := n12_; clear n0_ n1_ n2_ n3_ n4_ n5_ n6_ n7_ n8_ n9_ n10_ n11_ n12_; (try clear hb); (try clear hb2); (try clear hk); (try clear hi); (try clear ho0); (try clear ho1); have hcz59_0 : w58.cell? ⟨gbz27, 0, none⟩ = some (.string xz28000_2) := (blk_cell BKz27.out 0).trans rfl; have hcz59_1 : w58.cell? ⟨gbz27, 1, none⟩ = some (.int .i64 xz28001_2) := (blk_cell BKz27.out 1).trans rfl; have hcz59_2 : w58.cell? ⟨gbz27, 2, none⟩ = some (.slice Ao56 xz28002_2.length co56) := (blk_cell BKz27.out 2).trans rfl; have hcz59_3 : w58.cell? ⟨gbz27, 3, none⟩ = some (.slice Ao57 xz28003_2.length co57) := (blk_cell BKz27.out 3).trans rfl; have hcz59_4 : w58.cell? ⟨gbz27, 4, none⟩ = some (.bool xz28004_2) := (blk_cell BKz27.out 4).trans rfl; have hfz59_0 := blk_frozen BKz27.out 0; have hfz59_1 := blk_frozen BKz27.out 1; have hfz59_2 := blk_frozen BKz27.out 2; have hfz59_3 := blk_frozen BKz27.out 3; have hfz59_4 := blk_frozen BKz27.out 4; obtain ⟨Ao60, co60, eo60⟩ := Kd.R_slice HOz53.out; subst eo60; obtain ⟨Ao61, co61, eo61⟩ := Kd.R_slice HOz56.out; subst eo61; have hcz62_0 : w58.cell? ⟨gbz14, 0, none⟩ = some (.string tz38) := (blk_cell BKz14.out 0).trans rfl; have hcz62_1 : w58.cell? ⟨gbz14, 1, none⟩ = some (.int .i64 tz39) := (blk_cell BKz14.out 1).trans rfl; have hcz62_2 : w58.cell? ⟨gbz14, 2, none⟩ = some (.slice Ao53 tz40.length co53) := (blk_cell BKz14.out 2).trans rfl; have hcz62_3 : w58.cell? ⟨gbz14, 3, none⟩ = some (.slice Ao54 tz43.length co54) := (blk_cell BKz14.out 3).trans rfl; have hcz62_4 : w58.cell? ⟨gbz14, 4, none⟩ = some (.bool tz46) := (blk_cell BKz14.out 4).trans rfl; have hfz62_0 := blk_frozen BKz14.out 0; have hfz62_1 := blk_frozen BKz14.out 1; have hfz62_2 := blk_frozen BKz14.out 2; have hfz62_3 := blk_frozen BKz14.out 3; have hfz62_4 := blk_frozen BKz14.out 4))
  go_roundg kj26
  case measure => have := HJ9.out; have := HK2.out; have := HJ26.out; omega
  case rel => exact ⟨(wrap64 (x14_2 + 1)), (tz38), (tz39), (tz40), (tz43), (tz46), (tz49), (tz50), (tz51), (tz54), (tz57), (.slice Ao53 tz40.length co53), (.slice Ao54 tz43.length co54), (.slice Ao60 tz51.length co60), (.slice Ao61 tz54.length co61), (by first | rfl | (simp; done) | (simp [*]; done)), H', ⟨by have := HJ9.out; have := HK2.out; have := HJ26.out; omega⟩, ⟨by (with_reducible repeat (first | apply Kd.R_alloc | apply Kd.R_drewN | apply Kd.R_drew)); exact Kd.R_mono (rf5 (Kd.R_types HOz42.out BKz27.out (by decide)) (fun _ hk => hk.2)) (fun _ hk => hk.1.2)⟩, ⟨by (with_reducible repeat (first | apply Kd.R_alloc | apply Kd.R_drewN | apply Kd.R_drew)); exact Kd.R_mono (rf5 (Kd.R_types HOz45.out BKz27.out (by decide)) (fun _ hk => hk.2)) (fun _ hk => hk.1.2)⟩, ⟨by (with_reducible repeat (first | apply Kd.R_alloc | apply Kd.R_drewN | apply Kd.R_drew)); exact Kd.R_mono (rf5 (Kd.R_types HOz53.out BKz27.out (by decide)) (fun _ hk => hk.2)) (fun _ hk => hk.1.2)⟩, ⟨by (with_reducible repeat (first | apply Kd.R_alloc | apply Kd.R_drewN | apply Kd.R_drew)); exact Kd.R_mono (rf5 (Kd.R_types HOz56.out BKz27.out (by decide)) (fun _ hk => hk.2)) (fun _ hk => hk.1.2)⟩, ⟨by (with_reducible repeat (first | refine blk_drewN ?_ _ | refine blk_drew ?_ | refine blk_alloc ?_ _)); refine blk_far ?_ NBz14_z27.out _; (with_reducible repeat (first | refine blk_drewN ?_ _ | refine blk_drew ?_ | refine blk_alloc ?_ _)); refine blk_far ?_ NBz14_z27.out _; (with_reducible repeat (first | refine blk_drewN ?_ _ | refine blk_drew ?_ | refine blk_alloc ?_ _)); refine blk_far ?_ NBz14_z27.out _; (with_reducible repeat (first | refine blk_drewN ?_ _ | refine blk_drew ?_ | refine blk_alloc ?_ _)); refine blk_far ?_ NBz14_z27.out _; (with_reducible repeat (first | refine blk_drewN ?_ _ | refine blk_drew ?_ | refine blk_alloc ?_ _)); refine blk_far ?_ NBz14_z27.out _; (with_reducible repeat (first | refine blk_drewN ?_ _ | refine blk_drew ?_ | refine blk_alloc ?_ _)); exact BKz14.out⟩, ⟨by (with_reducible repeat (first | refine blk_drewN ?_ _ | refine blk_drew ?_ | refine blk_alloc ?_ _)); refine blk_put (cs := #[.string tz49, .int .i64 tz50, .slice Ao60 tz51.length co60, .slice Ao61 tz54.length co61, .bool xz28004_2]) ?_ 4 _ rfl; (with_reducible repeat (first | refine blk_drewN ?_ _ | refine blk_drew ?_ | refine blk_alloc ?_ _)); refine blk_put (cs := #[.string tz49, .int .i64 tz50, .slice Ao60 tz51.length co60, .slice Ao57 xz28003_2.length co57, .bool xz28004_2]) ?_ 3 _ rfl; (with_reducible repeat (first | refine blk_drewN ?_ _ | refine blk_drew ?_ | refine blk_alloc ?_ _)); refine blk_put (cs := #[.string tz49, .int .i64 tz50, .slice Ao56 xz28002_2.length co56, .slice Ao57 xz28003_2.length co57, .bool xz28004_2]) ?_ 2 _ rfl; (with_reducible repeat (first | refine blk_drewN ?_ _ | refine blk_drew ?_ | refine blk_alloc ?_ _)); refine blk_put (cs := #[.string tz49, .int .i64 xz28001_2, .slice Ao56 xz28002_2.length co56, .slice Ao57 xz28003_2.length co57, .bool xz28004_2]) ?_ 1 _ rfl; (with_reducible repeat (first | refine blk_drewN ?_ _ | refine blk_drew ?_ | refine blk_alloc ?_ _)); refine blk_put (cs := #[.string xz28000_2, .int .i64 xz28001_2, .slice Ao56 xz28002_2.length co56, .slice Ao57 xz28003_2.length co57, .bool xz28004_2]) ?_ 0 _ rfl; (with_reducible repeat (first | refine blk_drewN ?_ _ | refine blk_drew ?_ | refine blk_alloc ?_ _)); exact BKz27.out⟩, ⟨by repeat (first | (with_reducible first | exact HB.out | apply below_alloc | apply pw_below_drewN | apply below_drew1 | refine below_set ?_ GEz14.out | refine below_set ?_ GEz27.out) | exact HB.out)⟩⟩
 rw [if_neg c34] at H
 have c34b0 : (tz36 == 0) = false := beq_eq_false_iff_ne.mpr c34
 have c34b1 : (tz36 != 0) = true := bne_iff_ne.mpr c34
 by_cases c63 : 15 ≤ 281474976710656
 rotate_left
 ·rw [if_neg c63] at H
  exact absurd H (by simp)
 rw [if_pos c63] at H
 have c63b0 := eq_true c63
 have c63b1 : decide (15 ≤ 281474976710656) = true := decide_eq_true c63
 clear c63
 obtain ⟨yz59, hyz59⟩ : ∃ y_ : List Int, y_ = (List.replicate 15 0) := ⟨_, rfl⟩
 replace H : (if (strOfNums yz28).size + (strOfNums yz59).size ≤ 9223372036854775807 then (if 24 ≤ 281474976710656 then ((ideal_Seal.f kj26 xz15000_2 xz15001_2 xz15002_2 xz15003_2 xz15004_2 ((strOfNums yz28) ++ (strOfNums yz59)) (strOfNums (List.replicate 24 0))).bind fun btz65 => ((some (List.replicate 15 0 : List Int)).bind fun yz76 => (if (strOfNums yz76).size + (strOfNums yz28).size ≤ 9223372036854775807 then (if 23 ≤ 281474976710656 then ((some (List.replicate 23 0 : List Int)).bind fun yz79 => (if (strOfNums yz28).size + (strOfNums yz79).size ≤ 9223372036854775807 then ((ideal_Seal.f kj26 xz28000_2 xz28001_2 xz28002_2 xz28003_2 xz28004_2 ((strOfNums yz76) ++ (strOfNums yz28)) ((strOfNums yz28) ++ (strOfNums yz79))).bind fun btz82 => (if btz65.2.2.2.2.2.2 = 0 then (if btz82.2.2.2.2.2.2 = 0 then (if btz65.1.toList = btz82.1.toList then (if (!(btz65.2.1.toList == btz82.2.1.toList) || (!(btz65.2.2.1 == btz82.2.2.1))) = true then (none) else (columbariumlaw08_IdealHangs.l0 kj26 l2 a3 tz1 (wrap64 (x14_2 + 1)) btz65.2.1 btz65.2.2.1 btz65.2.2.2.1 btz65.2.2.2.2.1 btz65.2.2.2.2.2.1 btz82.2.1 btz82.2.2.1 btz82.2.2.2.1 btz82.2.2.2.2.1 btz82.2.2.2.2.2.1)) else (none)) else (none)) else (none))) else (none))) else (none)) else (none)))) else (none)) else (none)) = some r := by first | (rw [hyz59]; with_reducible exact H) | (have H2_ := (Option.bind_some _ _).symm.trans H; rw [hyz59]; with_reducible exact H2_) | (have H2_ := (Option.bind_some _ _).symm.trans H; with_reducible exact H2_) | with_reducible exact H | (rw [hyz59]; exact H) | exact H
 have Nyz59 := am hyz59
 clear hyz59
 by_cases c64 : (strOfNums yz28).size + (strOfNums yz59).size ≤ 9223372036854775807
 rotate_left
 ·rw [if_neg c64] at H
  exact absurd H (by simp)
 rw [if_pos c64] at H
 have c64b0 := eq_true c64
 have c64b1 : decide ((strOfNums yz28).size + (strOfNums yz59).size ≤ 9223372036854775807) = true := decide_eq_true c64
 try have c64b2 : (9223372036854775807 < (strOfNums yz28).size + (strOfNums yz59).size) = False := eq_false (Nat.not_lt.2 c64)
 obtain ⟨sx65, hsx65⟩ : ∃ s_ : ByteArray, ((strOfNums yz28) ++ (strOfNums yz59)) = s_ := ⟨_, rfl⟩
 replace H : (if 24 ≤ 281474976710656 then ((ideal_Seal.f kj26 xz15000_2 xz15001_2 xz15002_2 xz15003_2 xz15004_2 (sx65) (strOfNums (List.replicate 24 0))).bind fun btz65 => ((some (List.replicate 15 0 : List Int)).bind fun yz76 => (if (strOfNums yz76).size + (strOfNums yz28).size ≤ 9223372036854775807 then (if 23 ≤ 281474976710656 then ((some (List.replicate 23 0 : List Int)).bind fun yz79 => (if (strOfNums yz28).size + (strOfNums yz79).size ≤ 9223372036854775807 then ((ideal_Seal.f kj26 xz28000_2 xz28001_2 xz28002_2 xz28003_2 xz28004_2 ((strOfNums yz76) ++ (strOfNums yz28)) ((strOfNums yz28) ++ (strOfNums yz79))).bind fun btz82 => (if btz65.2.2.2.2.2.2 = 0 then (if btz82.2.2.2.2.2.2 = 0 then (if btz65.1.toList = btz82.1.toList then (if (!(btz65.2.1.toList == btz82.2.1.toList) || (!(btz65.2.2.1 == btz82.2.2.1))) = true then (none) else (columbariumlaw08_IdealHangs.l0 kj26 l2 a3 tz1 (wrap64 (x14_2 + 1)) btz65.2.1 btz65.2.2.1 btz65.2.2.2.1 btz65.2.2.2.2.1 btz65.2.2.2.2.2.1 btz82.2.1 btz82.2.2.1 btz82.2.2.2.1 btz82.2.2.2.2.1 btz82.2.2.2.2.2.1)) else (none)) else (none)) else (none))) else (none))) else (none)) else (none)))) else (none)) = some r := by first | (rw [hsx65] at H; exact H) | (simp only [hsx65] at H ⊢; exact H) | exact H
 by_cases c66 : 24 ≤ 281474976710656
 rotate_left
 ·rw [if_neg c66] at H
  exact absurd H (by simp)
 rw [if_pos c66] at H
 have c66b0 := eq_true c66
 have c66b1 : decide (24 ≤ 281474976710656) = true := decide_eq_true c66
 clear c66
 obtain ⟨yz62, hyz62⟩ : ∃ y_ : List Int, y_ = (List.replicate 24 0) := ⟨_, rfl⟩
 replace H : ((ideal_Seal.f kj26 xz15000_2 xz15001_2 xz15002_2 xz15003_2 xz15004_2 (sx65) (strOfNums yz62)).bind fun btz65 => ((some (List.replicate 15 0 : List Int)).bind fun yz76 => (if (strOfNums yz76).size + (strOfNums yz28).size ≤ 9223372036854775807 then (if 23 ≤ 281474976710656 then ((some (List.replicate 23 0 : List Int)).bind fun yz79 => (if (strOfNums yz28).size + (strOfNums yz79).size ≤ 9223372036854775807 then ((ideal_Seal.f kj26 xz28000_2 xz28001_2 xz28002_2 xz28003_2 xz28004_2 ((strOfNums yz76) ++ (strOfNums yz28)) ((strOfNums yz28) ++ (strOfNums yz79))).bind fun btz82 => (if btz65.2.2.2.2.2.2 = 0 then (if btz82.2.2.2.2.2.2 = 0 then (if btz65.1.toList = btz82.1.toList then (if (!(btz65.2.1.toList == btz82.2.1.toList) || (!(btz65.2.2.1 == btz82.2.2.1))) = true then (none) else (columbariumlaw08_IdealHangs.l0 kj26 l2 a3 tz1 (wrap64 (x14_2 + 1)) btz65.2.1 btz65.2.2.1 btz65.2.2.2.1 btz65.2.2.2.2.1 btz65.2.2.2.2.2.1 btz82.2.1 btz82.2.2.1 btz82.2.2.2.1 btz82.2.2.2.2.1 btz82.2.2.2.2.2.1)) else (none)) else (none)) else (none))) else (none))) else (none)) else (none)))) = some r := by first | (rw [hyz62]; with_reducible exact H) | (have H2_ := (Option.bind_some _ _).symm.trans H; rw [hyz62]; with_reducible exact H2_) | (have H2_ := (Option.bind_some _ _).symm.trans H; with_reducible exact H2_) | with_reducible exact H | (rw [hyz62]; exact H) | exact H
 have Nyz62 := am hyz62
 clear hyz62
 replace H := Option.bind_eq_some_iff.mp H
 obtain ⟨⟨tz65, tz66, tz67, tz68, tz71, tz74, tz75⟩, A670, H⟩ := H
 replace H : ((some (List.replicate 15 0 : List Int)).bind fun yz76 => (if (strOfNums yz76).size + (strOfNums yz28).size ≤ 9223372036854775807 then (if 23 ≤ 281474976710656 then ((some (List.replicate 23 0 : List Int)).bind fun yz79 => (if (strOfNums yz28).size + (strOfNums yz79).size ≤ 9223372036854775807 then ((ideal_Seal.f kj26 xz28000_2 xz28001_2 xz28002_2 xz28003_2 xz28004_2 ((strOfNums yz76) ++ (strOfNums yz28)) ((strOfNums yz28) ++ (strOfNums yz79))).bind fun btz82 => (if tz75 = 0 then (if btz82.2.2.2.2.2.2 = 0 then (if tz65.toList = btz82.1.toList then (if (!(tz66.toList == btz82.2.1.toList) || (!(tz67 == btz82.2.2.1))) = true then (none) else (columbariumlaw08_IdealHangs.l0 kj26 l2 a3 tz1 (wrap64 (x14_2 + 1)) tz66 tz67 tz68 tz71 tz74 btz82.2.1 btz82.2.2.1 btz82.2.2.2.1 btz82.2.2.2.2.1 btz82.2.2.2.2.2.1)) else (none)) else (none)) else (none))) else (none))) else (none)) else (none))) = some r := H
 have A67 := Aside0.mk A670
 clear A670
 obtain ⟨yz76, hyz76⟩ : ∃ y_ : List Int, y_ = (List.replicate 15 0) := ⟨_, rfl⟩
 replace H : (if (strOfNums yz76).size + (strOfNums yz28).size ≤ 9223372036854775807 then (if 23 ≤ 281474976710656 then ((some (List.replicate 23 0 : List Int)).bind fun yz79 => (if (strOfNums yz28).size + (strOfNums yz79).size ≤ 9223372036854775807 then ((ideal_Seal.f kj26 xz28000_2 xz28001_2 xz28002_2 xz28003_2 xz28004_2 ((strOfNums yz76) ++ (strOfNums yz28)) ((strOfNums yz28) ++ (strOfNums yz79))).bind fun btz82 => (if tz75 = 0 then (if btz82.2.2.2.2.2.2 = 0 then (if tz65.toList = btz82.1.toList then (if (!(tz66.toList == btz82.2.1.toList) || (!(tz67 == btz82.2.2.1))) = true then (none) else (columbariumlaw08_IdealHangs.l0 kj26 l2 a3 tz1 (wrap64 (x14_2 + 1)) tz66 tz67 tz68 tz71 tz74 btz82.2.1 btz82.2.2.1 btz82.2.2.2.1 btz82.2.2.2.2.1 btz82.2.2.2.2.2.1)) else (none)) else (none)) else (none))) else (none))) else (none)) else (none)) = some r := by first | (rw [hyz76]; with_reducible exact H) | (have H2_ := (Option.bind_some _ _).symm.trans H; rw [hyz76]; with_reducible exact H2_) | (have H2_ := (Option.bind_some _ _).symm.trans H; with_reducible exact H2_) | with_reducible exact H | (rw [hyz76]; exact H) | exact H
 have Nyz76 := am hyz76
 clear hyz76
 by_cases c68 : (strOfNums yz76).size + (strOfNums yz28).size ≤ 9223372036854775807
 rotate_left
 ·rw [if_neg c68] at H
  exact absurd H (by simp)
 rw [if_pos c68] at H
 have c68b0 := eq_true c68
 have c68b1 : decide ((strOfNums yz76).size + (strOfNums yz28).size ≤ 9223372036854775807) = true := decide_eq_true c68
 try have c68b2 : (9223372036854775807 < (strOfNums yz76).size + (strOfNums yz28).size) = False := eq_false (Nat.not_lt.2 c68)
 obtain ⟨sx69, hsx69⟩ : ∃ s_ : ByteArray, ((strOfNums yz76) ++ (strOfNums yz28)) = s_ := ⟨_, rfl⟩
 replace H : (if 23 ≤ 281474976710656 then ((some (List.replicate 23 0 : List Int)).bind fun yz79 => (if (strOfNums yz28).size + (strOfNums yz79).size ≤ 9223372036854775807 then ((ideal_Seal.f kj26 xz28000_2 xz28001_2 xz28002_2 xz28003_2 xz28004_2 (sx69) ((strOfNums yz28) ++ (strOfNums yz79))).bind fun btz82 => (if tz75 = 0 then (if btz82.2.2.2.2.2.2 = 0 then (if tz65.toList = btz82.1.toList then (if (!(tz66.toList == btz82.2.1.toList) || (!(tz67 == btz82.2.2.1))) = true then (none) else (columbariumlaw08_IdealHangs.l0 kj26 l2 a3 tz1 (wrap64 (x14_2 + 1)) tz66 tz67 tz68 tz71 tz74 btz82.2.1 btz82.2.2.1 btz82.2.2.2.1 btz82.2.2.2.2.1 btz82.2.2.2.2.2.1)) else (none)) else (none)) else (none))) else (none))) else (none)) = some r := by first | (rw [hsx69] at H; exact H) | (simp only [hsx69] at H ⊢; exact H) | exact H
 by_cases c70 : 23 ≤ 281474976710656
 rotate_left
 ·rw [if_neg c70] at H
  exact absurd H (by simp)
 rw [if_pos c70] at H
 have c70b0 := eq_true c70
 have c70b1 : decide (23 ≤ 281474976710656) = true := decide_eq_true c70
 clear c70
 obtain ⟨yz79, hyz79⟩ : ∃ y_ : List Int, y_ = (List.replicate 23 0) := ⟨_, rfl⟩
 replace H : (if (strOfNums yz28).size + (strOfNums yz79).size ≤ 9223372036854775807 then ((ideal_Seal.f kj26 xz28000_2 xz28001_2 xz28002_2 xz28003_2 xz28004_2 (sx69) ((strOfNums yz28) ++ (strOfNums yz79))).bind fun btz82 => (if tz75 = 0 then (if btz82.2.2.2.2.2.2 = 0 then (if tz65.toList = btz82.1.toList then (if (!(tz66.toList == btz82.2.1.toList) || (!(tz67 == btz82.2.2.1))) = true then (none) else (columbariumlaw08_IdealHangs.l0 kj26 l2 a3 tz1 (wrap64 (x14_2 + 1)) tz66 tz67 tz68 tz71 tz74 btz82.2.1 btz82.2.2.1 btz82.2.2.2.1 btz82.2.2.2.2.1 btz82.2.2.2.2.2.1)) else (none)) else (none)) else (none))) else (none)) = some r := by first | (rw [hyz79]; with_reducible exact H) | (have H2_ := (Option.bind_some _ _).symm.trans H; rw [hyz79]; with_reducible exact H2_) | (have H2_ := (Option.bind_some _ _).symm.trans H; with_reducible exact H2_) | with_reducible exact H | (rw [hyz79]; exact H) | exact H
 have Nyz79 := am hyz79
 clear hyz79
 by_cases c71 : (strOfNums yz28).size + (strOfNums yz79).size ≤ 9223372036854775807
 rotate_left
 ·rw [if_neg c71] at H
  exact absurd H (by simp)
 rw [if_pos c71] at H
 have c71b0 := eq_true c71
 have c71b1 : decide ((strOfNums yz28).size + (strOfNums yz79).size ≤ 9223372036854775807) = true := decide_eq_true c71
 try have c71b2 : (9223372036854775807 < (strOfNums yz28).size + (strOfNums yz79).size) = False := eq_false (Nat.not_lt.2 c71)
 obtain ⟨sx72, hsx72⟩ : ∃ s_ : ByteArray, ((strOfNums yz28) ++ (strOfNums yz79)) = s_ := ⟨_, rfl⟩
 replace H : ((ideal_Seal.f kj26 xz28000_2 xz28001_2 xz28002_2 xz28003_2 xz28004_2 (sx69) (sx72)).bind fun btz82 => (if tz75 = 0 then (if btz82.2.2.2.2.2.2 = 0 then (if tz65.toList = btz82.1.toList then (if (!(tz66.toList == btz82.2.1.toList) || (!(tz67 == btz82.2.2.1))) = true then (none) else (columbariumlaw08_IdealHangs.l0 kj26 l2 a3 tz1 (wrap64 (x14_2 + 1)) tz66 tz67 tz68 tz71 tz74 btz82.2.1 btz82.2.2.1 btz82.2.2.2.1 btz82.2.2.2.2.1 btz82.2.2.2.2.2.1)) else (none)) else (none)) else (none))) = some r := by first | (rw [hsx72] at H; exact H) | (simp only [hsx72] at H ⊢; exact H) | exact H
 replace H := Option.bind_eq_some_iff.mp H
 obtain ⟨⟨tz82, tz83, tz84, tz85, tz88, tz91, tz92⟩, A730, H⟩ := H
 replace H : (if tz75 = 0 then (if tz92 = 0 then (if tz65.toList = tz82.toList then (if (!(tz66.toList == tz83.toList) || (!(tz67 == tz84))) = true then (none) else (columbariumlaw08_IdealHangs.l0 kj26 l2 a3 tz1 (wrap64 (x14_2 + 1)) tz66 tz67 tz68 tz71 tz74 tz83 tz84 tz85 tz88 tz91)) else (none)) else (none)) else (none)) = some r := H
 have A73 := Aside0.mk A730
 clear A730
 by_cases c74 : tz75 = 0
 rotate_left
 ·rw [if_neg c74] at H
  exact absurd H (by simp)
 rw [if_pos c74] at H
 have c74b0 : (tz75 == 0) = true := beq_iff_eq.mpr c74
 have c74b1 : (tz75 != 0) = false := bne_eq_false_iff_eq.mpr c74
 clear c74
 by_cases c75 : tz92 = 0
 rotate_left
 ·rw [if_neg c75] at H
  exact absurd H (by simp)
 rw [if_pos c75] at H
 have c75b0 : (tz92 == 0) = true := beq_iff_eq.mpr c75
 have c75b1 : (tz92 != 0) = false := bne_eq_false_iff_eq.mpr c75
 clear c75
 by_cases c76 : tz65.toList = tz82.toList
 rotate_left
 ·rw [if_neg c76] at H
  exact absurd H (by simp)
 rw [if_pos c76] at H
 have c76b0 : (tz65.toList == tz82.toList) = true := beq_iff_eq.mpr c76
 have c76b1 : (tz65.toList != tz82.toList) = false := bne_eq_false_iff_eq.mpr c76
 clear c76
 by_cases c77 : (!(tz66.toList == tz83.toList) || (!(tz67 == tz84))) = true
 ·rw [if_pos c77] at H
  exact absurd H (by simp)
 rw [if_neg c77] at H
 have c77b0 : (!(tz66.toList == tz83.toList) || (!(tz67 == tz84))) = false := by simpa using c77
 clear c77
 have H' := am H
 clear H
 try go_wp2_with (first | ((with_reducible refine gate_dst (N := 52) rfl ?_); refine Kd.R_lit (Kd.int .u8) _ 5 ?hg (N := 52) ?hd (xs := ([(x14_2) % 256] : List Int)) (inner := [.int .u8 ((x14_2) % 256)]) (ok := fun _ => True) (okp := fun _ => True) ?hr ?hp (fun _ hk => hk) trivial (Below.refl _ _) (Nat.le_refl _) (by simp) ?_; (case hd => rfl); (case hg => rfl); (case hr => first | (go_simp; done) | (go_simp; rfl)); (case hp => exact (Reps.one (show Kd.M (Kd.int .u8) _ _ _ ((x14_2) % 256) [.int .u8 ((x14_2) % 256)] from rfl) (Reps.none _ _))); intro vz29 w78 ho79 hb hg_ hnew_; clear hg_ hnew_; (first | rw [← Nyz28.out] at ho79 | (simp only [Int.reduceToNat] at ho79; rw [← Nyz28.out] at ho79)); have n0_ := am (Kd.R_below (pr HO_z15002) hb); have n1_ := am (Kd.R_below (pr HO_z15003) hb); have n2_ := am (Kd.R_below (pr HO_z28002) hb); have n3_ := am (Kd.R_below (pr HO_z28003) hb); have n4_ := am (Kd.R_lower ho79 (below_size (by repeat (first | (with_reducible first | exact HB.out | apply below_alloc | apply pw_below_drewN | apply below_drew1 | refine below_set ?_ GEz14.out | refine below_set ?_ GEz27.out) | exact HB.out)))); have n5_ := am (blk_below (pk BKz14) hb); have n6_ := am (blk_below (pk BKz27) hb); have n7_ := am (below_step (by repeat (first | (with_reducible first | exact HB.out | apply below_alloc | apply pw_below_drewN | apply below_drew1 | refine below_set ?_ GEz14.out | refine below_set ?_ GEz27.out) | exact HB.out)) hb); clear HO_z15002; clear HO_z15003; clear HO_z28002; clear HO_z28003; clear BKz14; clear BKz27; clear HB; have HO_z15002 := n0_; have HO_z15003 := n1_; have HO_z28002 := n2_; have HO_z28003 := n3_; have HOz30 := n4_; have BKz14 := n5_; have BKz27 := n6_; have HB := n7_; clear n0_ n1_ n2_ n3_ n4_ n5_ n6_ n7_; clear hb ho79; have hcv80 := own_string (P := Try.prog) Try.underlying57 Try.underlying5 Try.underlying9 (Kd.own_of_R HOz30.out)) | ((with_reducible refine gate_callee (f := 34) rfl ?_); refine goesL_ (some 57) rfl rfl Try.func34 (by kernel_rfl) rfl #[.int .i64 a3, .int .i64 200] rfl (by (try simp only [List.map_toArray, List.map_cons, List.map_nil]); first | done | rfl | (simp only [List.length_drop, List.length_take]; rfl)) ?_; (with_reducible refine (columbariumlaw08_pick.calls a3 200 tz31 _ A30.out).mono ?_); rintro e w' ⟨rfl, ⟨nd, rfl⟩⟩; refine ⟨_, rfl, ?_⟩; (try (rw [drewN_self w78]; generalize hq_ : World.drewN w78 _ = w78; have n0_ : Aside0 (Kd.R (Kd.int .u8) 5 w78 w.heap.size (fun _ => True) vz29 yz28) := ⟨by rw [← hq_]; exact (pr HOz30)⟩; have n1_ : Aside0 (Kd.R k72 72 w78 w.heap.size (fun k_ => some k_ ≠ (uz28002 : Value).ownBlock) uz15002 xz15002_2) := ⟨by rw [← hq_]; exact (pr HO_z15002)⟩; have n2_ : Aside0 (Kd.R k74 74 w78 w.heap.size (fun k_ => some k_ ≠ (uz28003 : Value).ownBlock) uz15003 xz15003_2) := ⟨by rw [← hq_]; exact (pr HO_z15003)⟩; have n3_ : Aside0 (Kd.R k72 72 w78 w.heap.size (fun k_ => some k_ ≠ (uz15002 : Value).ownBlock) uz28002 xz28002_2) := ⟨by rw [← hq_]; exact (pr HO_z28002)⟩; have n4_ : Aside0 (Kd.R k74 74 w78 w.heap.size (fun k_ => some k_ ≠ (uz15003 : Value).ownBlock) uz28003 xz28003_2) := ⟨by rw [← hq_]; exact (pr HO_z28003)⟩; have n5_ : Aside0 (w78.heap[gbz14]? = some (.cells #[.string xz15000_2, .int .i64 xz15001_2, uz15002, uz15003, .bool xz15004_2] 50 (0, 0))) := ⟨by rw [← hq_]; exact (pk BKz14)⟩; have n6_ : Aside0 (w78.heap[gbz27]? = some (.cells #[.string xz28000_2, .int .i64 xz28001_2, uz28002, uz28003, .bool xz28004_2] 50 (0, 0))) := ⟨by rw [← hq_]; exact (pk BKz27)⟩; have n7_ : Aside0 (Below w.heap.size w w78) := ⟨by rw [← hq_]; exact (by repeat (first | (with_reducible first | exact HB.out | apply below_alloc | apply pw_below_drewN | apply below_drew1 | refine below_set ?_ GEz14.out | refine below_set ?_ GEz27.out) | exact HB.out))⟩; clear HOz30 HO_z15002 HO_z15003 HO_z28002 HO_z28003 BKz14 BKz27 HB hq_; have HOz30 := n0_; have HO_z15002 := n1_; have HO_z15003 := n2_; have HO_z28002 := n3_; have HO_z28003 := n4_; have BKz14 := n5_; have BKz27 := n6_; have HB := n7_; clear n0_ n1_ n2_ n3_ n4_ n5_ n6_ n7_))) | ((with_reducible refine gate_dst (N := 60) rfl ?_); refine Kd.R_lit (Kd.int .u8) _ 5 ?hg (N := 60) ?hd (xs := ([(wrap64 ((wrap64 (x14_2 + 1)) + tz31)) % 256, 121] : List Int)) (inner := [.int .u8 ((wrap64 ((wrap64 (x14_2 + 1)) + tz31)) % 256), .int .u8 121]) (ok := fun _ => True) (okp := fun _ => True) ?hr ?hp (fun _ hk => hk) trivial (Below.refl _ _) (Nat.le_refl _) (by simp) ?_; (case hd => rfl); (case hg => rfl); (case hr => first | (go_simp; done) | (go_simp; rfl)); (case hp => exact (Reps.one (show Kd.M (Kd.int .u8) _ _ _ ((wrap64 ((wrap64 (x14_2 + 1)) + tz31)) % 256) [.int .u8 ((wrap64 ((wrap64 (x14_2 + 1)) + tz31)) % 256)] from rfl) (Reps.one (show Kd.M (Kd.int .u8) _ _ _ 121 [.int .u8 121] from rfl) (Reps.none _ _)))); intro vz33 w81 ho82 hb hg_ hnew_; clear hg_ hnew_; (first | rw [← Nyz32.out] at ho82 | (simp only [Int.reduceToNat] at ho82; rw [← Nyz32.out] at ho82)); have n0_ := am (Kd.R_below (pr HO_z15002) hb); have n1_ := am (Kd.R_below (pr HO_z15003) hb); have n2_ := am (Kd.R_below (pr HO_z28002) hb); have n3_ := am (Kd.R_below (pr HO_z28003) hb); have n4_ := am (Kd.R_elder' (pr HOz30) (Kd.R_base ho82) hb); have n5_ := am (Kd.R_lower (Kd.R_new' ho82 (Kd.R_lt (pr HOz30))) (below_size (by repeat (first | (with_reducible first | exact HB.out | apply below_alloc | apply pw_below_drewN | apply below_drew1 | refine below_set ?_ GEz14.out | refine below_set ?_ GEz27.out) | exact HB.out)))); have n6_ := am (blk_below (pk BKz14) hb); have n7_ := am (blk_below (pk BKz27) hb); have n8_ := am (below_step (by repeat (first | (with_reducible first | exact HB.out | apply below_alloc | apply pw_below_drewN | apply below_drew1 | refine below_set ?_ GEz14.out | refine below_set ?_ GEz27.out) | exact HB.out)) hb); clear HO_z15002; clear HO_z15003; clear HO_z28002; clear HO_z28003; clear HOz30; clear BKz14; clear BKz27; clear HB; have HO_z15002 := n0_; have HO_z15003 := n1_; have HO_z28002 := n2_; have HO_z28003 := n3_; have HOz30 := n4_; have HOz34 := n5_; have BKz14 := n6_; have BKz27 := n7_; have HB := n8_; clear n0_ n1_ n2_ n3_ n4_ n5_ n6_ n7_ n8_; clear hb ho82; have hcv83 := own_string (P := Try.prog) Try.underlying57 Try.underlying5 Try.underlying9 (Kd.own_of_R HOz34.out); have pz35 : 0 ≤ (x14_2 : Int) := of_decide_eq_true (by first | (with_reducible assumption) | assumption); have qz35 : x14_2 < (l2.length : Int) := of_decide_eq_true (by first | (with_reducible assumption) | assumption); obtain ⟨adz35, ez35, hxz35_0⟩ := Kd.at_int HR2.out x14_2 pz35 qz35; cases ez35; replace hxz35_0 := (HB.out.cell (World.block_lt_of_cell? w _ hxz35_0)).trans hxz35_0; replace pz35 := eq_true pz35; replace qz35 := eq_true qz35) | ((with_reducible refine gate_callee (f := 34) rfl ?_); refine goesL_ (some 66) rfl rfl Try.func34 (by kernel_rfl) rfl #[.int .i64 (rd l2 x14_2), .int .i64 2] rfl (by (try simp only [List.map_toArray, List.map_cons, List.map_nil]); first | done | rfl | (simp only [List.length_drop, List.length_take]; rfl)) ?_; (with_reducible refine (columbariumlaw08_pick.calls (rd l2 x14_2) 2 tz36 _ A33.out).mono ?_); rintro e w' ⟨rfl, ⟨nd, rfl⟩⟩; refine ⟨_, rfl, ?_⟩; (try (rw [drewN_self w81]; generalize hq_ : World.drewN w81 _ = w81; have n0_ : Aside0 (Kd.R (Kd.int .u8) 5 w81 w.heap.size (fun k_ => some k_ ≠ (vz33 : Value).ownBlock) vz29 yz28) := ⟨by rw [← hq_]; exact (pm HOz30 (fun _ hk => hk.2))⟩; have n1_ : Aside0 (Kd.R (Kd.int .u8) 5 w81 w.heap.size (fun k_ => some k_ ≠ (vz29 : Value).ownBlock) vz33 yz32) := ⟨by rw [← hq_]; exact (pm HOz34 (fun _ hk => hk.2))⟩; have n2_ : Aside0 (Kd.R k72 72 w81 w.heap.size (fun k_ => some k_ ≠ (uz28002 : Value).ownBlock) uz15002 xz15002_2) := ⟨by rw [← hq_]; exact (pr HO_z15002)⟩; have n3_ : Aside0 (Kd.R k74 74 w81 w.heap.size (fun k_ => some k_ ≠ (uz28003 : Value).ownBlock) uz15003 xz15003_2) := ⟨by rw [← hq_]; exact (pr HO_z15003)⟩; have n4_ : Aside0 (Kd.R k72 72 w81 w.heap.size (fun k_ => some k_ ≠ (uz15002 : Value).ownBlock) uz28002 xz28002_2) := ⟨by rw [← hq_]; exact (pr HO_z28002)⟩; have n5_ : Aside0 (Kd.R k74 74 w81 w.heap.size (fun k_ => some k_ ≠ (uz15003 : Value).ownBlock) uz28003 xz28003_2) := ⟨by rw [← hq_]; exact (pr HO_z28003)⟩; have n6_ : Aside0 (w81.heap[gbz14]? = some (.cells #[.string xz15000_2, .int .i64 xz15001_2, uz15002, uz15003, .bool xz15004_2] 50 (0, 0))) := ⟨by rw [← hq_]; exact (pk BKz14)⟩; have n7_ : Aside0 (w81.heap[gbz27]? = some (.cells #[.string xz28000_2, .int .i64 xz28001_2, uz28002, uz28003, .bool xz28004_2] 50 (0, 0))) := ⟨by rw [← hq_]; exact (pk BKz27)⟩; have n8_ : Aside0 (Below w.heap.size w w81) := ⟨by rw [← hq_]; exact (by repeat (first | (with_reducible first | exact HB.out | apply below_alloc | apply pw_below_drewN | apply below_drew1 | refine below_set ?_ GEz14.out | refine below_set ?_ GEz27.out) | exact HB.out))⟩; clear HOz30 HOz34 HO_z15002 HO_z15003 HO_z28002 HO_z28003 BKz14 BKz27 HB hq_; have HOz30 := n0_; have HOz34 := n1_; have HO_z15002 := n2_; have HO_z15003 := n3_; have HO_z28002 := n4_; have HO_z28003 := n5_; have BKz14 := n6_; have BKz27 := n7_; have HB := n8_; clear n0_ n1_ n2_ n3_ n4_ n5_ n6_ n7_ n8_)); obtain ⟨Ao84, co84, eo84⟩ := Kd.R_slice HO_z15002.out; subst eo84; obtain ⟨Ao85, co85, eo85⟩ := Kd.R_slice HO_z15003.out; subst eo85))
 have n0_ := am (Kd.R_drew HO_z15002.out)
 have n1_ := am (Kd.R_drew HO_z15003.out)
 have n2_ := am (Kd.R_drew HO_z28002.out)
 have n3_ := am (Kd.R_drew HO_z28003.out)
 have n4_ := am (Kd.R_drew HOz30.out)
 have n5_ := am (Kd.R_drew HOz34.out)
 have n6_ := am (blk_drew BKz14.out)
 have n7_ := am (blk_drew BKz27.out)
 have n8_ := am (below_drew1 HB.out)
 clear HO_z15002 HO_z15003 HO_z28002 HO_z28003 HOz30 HOz34 BKz14 BKz27 HB; have HO_z15002 := n0_; have HO_z15003 := n1_; have HO_z28002 := n2_; have HO_z28003 := n3_; have HOz30 := n4_; have HOz34 := n5_; have BKz14 := n6_; have BKz27 := n7_; have HB := n8_; clear n0_ n1_ n2_ n3_ n4_ n5_ n6_ n7_ n8_
 refine start_ (n := 15) (S := fun w' => w'.cell? ⟨gbz14, 0, none⟩ = some (.string xz15000_2) ∧ w'.cell? ⟨gbz14, 1, none⟩ = some (.int .i64 xz15001_2) ∧ w'.cell? ⟨gbz14, 2, none⟩ = some (.slice Ao84 xz15002_2.length co84) ∧ w'.cell? ⟨gbz14, 3, none⟩ = some (.slice Ao85 xz15003_2.length co85) ∧ w'.cell? ⟨gbz14, 4, none⟩ = some (.bool xz15004_2)) (ds := [13]) #[false, false, false, false, false, false, false, false, false, false, false, false, false, false, false] (by kernel_rfl) rfl rfl (bc5 BKz14) (fun hHeld => ?_); refine with_tabW columbariumlaw08_IdealHangs.tab16 columbariumlaw08_IdealHangs.bits16 (fun HT_ HW_ => ?_)
 generalize w81.drew = w86 at HO_z15002 HO_z15003 HO_z28002 HO_z28003 HOz30 HOz34 BKz14 BKz27 HB hHeld ⊢
 refine pu_ 1 (some 84) HT_ rfl rfl (by kernel_rfl) (fun _ _ _ h => h) (.inl ⟨by rfl, by intro w'; go_simp; with_reducible rfl⟩) (by simp only [Act.put, sa_, s0_, s1_, i64_w, i32_w]; rfl) ?_
 refine tk_ 0 (some 83) HT_ HW_ rfl rfl (by kernel_rfl) (fun _ _ _ h => h) (.inl ⟨by rfl, by rintro w' ⟨s0, s1, s2, s3, s4⟩; go_simp; with_reducible rfl⟩) hHeld (by simp only [Act.put, sa_, s0_, s1_, i64_w, i32_w]; rfl) ?_
 refine join_ (σ := Value × Value) 8 #[true, true, true, true, true, true, true, false, false, false, false, false, false, false, false] (fun s_ => [(85, s_.1), (86, .string (strOfNums yz59)), (88, s_.2), (89, .string (strOfNums yz62)), (87, .string sx65)]) (fun s_ w' => (w'.cell? ⟨gbz14, 0, none⟩ = some (.string xz15000_2) ∧ w'.cell? ⟨gbz14, 1, none⟩ = some (.int .i64 xz15001_2) ∧ w'.cell? ⟨gbz14, 2, none⟩ = some (.slice Ao84 xz15002_2.length co84) ∧ w'.cell? ⟨gbz14, 3, none⟩ = some (.slice Ao85 xz15003_2.length co85) ∧ w'.cell? ⟨gbz14, 4, none⟩ = some (.bool xz15004_2)) ∧ (Kd.R (Kd.int .u8) 5 w' w.heap.size (fun k_ => some k_ ≠ (vz33 : Value).ownBlock ∧ some k_ ≠ (s_.1 : Value).ownBlock ∧ some k_ ≠ (s_.2 : Value).ownBlock) vz29 yz28) ∧ (Kd.R (Kd.int .u8) 5 w' w.heap.size (fun k_ => some k_ ≠ (vz29 : Value).ownBlock ∧ some k_ ≠ (s_.1 : Value).ownBlock ∧ some k_ ≠ (s_.2 : Value).ownBlock) vz33 yz32) ∧ (Kd.R (Kd.int .u8) 5 w' w.heap.size (fun k_ => some k_ ≠ (vz29 : Value).ownBlock ∧ some k_ ≠ (vz33 : Value).ownBlock ∧ some k_ ≠ (s_.2 : Value).ownBlock) s_.1 yz59) ∧ (Kd.R (Kd.int .u8) 5 w' w.heap.size (fun k_ => some k_ ≠ (vz29 : Value).ownBlock ∧ some k_ ≠ (vz33 : Value).ownBlock ∧ some k_ ≠ (s_.1 : Value).ownBlock) s_.2 yz62) ∧ (Kd.R k72 72 w' w.heap.size (fun k_ => some k_ ≠ (uz28002 : Value).ownBlock) (.slice Ao84 xz15002_2.length co84) xz15002_2) ∧ (Kd.R k74 74 w' w.heap.size (fun k_ => some k_ ≠ (uz28003 : Value).ownBlock) (.slice Ao85 xz15003_2.length co85) xz15003_2) ∧ (Kd.R k72 72 w' w.heap.size (fun k_ => some k_ ≠ (.slice Ao84 xz15002_2.length co84 : Value).ownBlock) uz28002 xz28002_2) ∧ (Kd.R k74 74 w' w.heap.size (fun k_ => some k_ ≠ (.slice Ao85 xz15003_2.length co85 : Value).ownBlock) uz28003 xz28003_2) ∧ (w'.heap[gbz14]? = some (.cells #[.string xz15000_2, .int .i64 xz15001_2, .slice Ao84 xz15002_2.length co84, .slice Ao85 xz15003_2.length co85, .bool xz15004_2] 50 (0, 0))) ∧ (w'.heap[gbz27]? = some (.cells #[.string xz28000_2, .int .i64 xz28001_2, uz28002, uz28003, .bool xz28004_2] 50 (0, 0))) ∧ (Below w.heap.size w w')) ?_ ?_
 rotate_left
 ·intro hJ2_3_5_6
  refine join_ (σ := Value × Value) 9 #[true, true, true, true, true, true, false, false, false, false, false, false, false, false, false] (fun s_ => [(85, s_.1), (86, .string (strOfNums yz59)), (88, s_.2), (87, .string sx65)]) (fun s_ w' => (w'.cell? ⟨gbz14, 0, none⟩ = some (.string xz15000_2) ∧ w'.cell? ⟨gbz14, 1, none⟩ = some (.int .i64 xz15001_2) ∧ w'.cell? ⟨gbz14, 2, none⟩ = some (.slice Ao84 xz15002_2.length co84) ∧ w'.cell? ⟨gbz14, 3, none⟩ = some (.slice Ao85 xz15003_2.length co85) ∧ w'.cell? ⟨gbz14, 4, none⟩ = some (.bool xz15004_2)) ∧ (Kd.R (Kd.int .u8) 5 w' w.heap.size (fun k_ => some k_ ≠ (vz33 : Value).ownBlock ∧ some k_ ≠ (s_.1 : Value).ownBlock ∧ some k_ ≠ (s_.2 : Value).ownBlock) vz29 yz28) ∧ (Kd.R (Kd.int .u8) 5 w' w.heap.size (fun k_ => some k_ ≠ (vz29 : Value).ownBlock ∧ some k_ ≠ (s_.1 : Value).ownBlock ∧ some k_ ≠ (s_.2 : Value).ownBlock) vz33 yz32) ∧ (Kd.R (Kd.int .u8) 5 w' w.heap.size (fun k_ => some k_ ≠ (vz29 : Value).ownBlock ∧ some k_ ≠ (vz33 : Value).ownBlock ∧ some k_ ≠ (s_.2 : Value).ownBlock) s_.1 yz59) ∧ (Kd.R (Kd.int .u8) 5 w' w.heap.size (fun k_ => some k_ ≠ (vz29 : Value).ownBlock ∧ some k_ ≠ (vz33 : Value).ownBlock ∧ some k_ ≠ (s_.1 : Value).ownBlock) s_.2 yz62) ∧ (Kd.R k72 72 w' w.heap.size (fun k_ => some k_ ≠ (uz28002 : Value).ownBlock) (.slice Ao84 xz15002_2.length co84) xz15002_2) ∧ (Kd.R k74 74 w' w.heap.size (fun k_ => some k_ ≠ (uz28003 : Value).ownBlock) (.slice Ao85 xz15003_2.length co85) xz15003_2) ∧ (Kd.R k72 72 w' w.heap.size (fun k_ => some k_ ≠ (.slice Ao84 xz15002_2.length co84 : Value).ownBlock) uz28002 xz28002_2) ∧ (Kd.R k74 74 w' w.heap.size (fun k_ => some k_ ≠ (.slice Ao85 xz15003_2.length co85 : Value).ownBlock) uz28003 xz28003_2) ∧ (w'.heap[gbz14]? = some (.cells #[.string xz15000_2, .int .i64 xz15001_2, .slice Ao84 xz15002_2.length co84, .slice Ao85 xz15003_2.length co85, .bool xz15004_2] 50 (0, 0))) ∧ (w'.heap[gbz27]? = some (.cells #[.string xz28000_2, .int .i64 xz28001_2, uz28002, uz28003, .bool xz28004_2] 50 (0, 0))) ∧ (Below w.heap.size w w')) ?_ ?_
  rotate_left
  ·intro hJ2_3_5
   refine join_ (σ := Value × Value) 10 #[true, true, true, false, false, true, true, false, false, false, false, false, false, false, false] (fun s_ => [(85, s_.1), (88, s_.2), (89, .string (strOfNums yz62))]) (fun s_ w' => (w'.cell? ⟨gbz14, 0, none⟩ = some (.string xz15000_2) ∧ w'.cell? ⟨gbz14, 1, none⟩ = some (.int .i64 xz15001_2) ∧ w'.cell? ⟨gbz14, 2, none⟩ = some (.slice Ao84 xz15002_2.length co84) ∧ w'.cell? ⟨gbz14, 3, none⟩ = some (.slice Ao85 xz15003_2.length co85) ∧ w'.cell? ⟨gbz14, 4, none⟩ = some (.bool xz15004_2)) ∧ (Kd.R (Kd.int .u8) 5 w' w.heap.size (fun k_ => some k_ ≠ (vz33 : Value).ownBlock ∧ some k_ ≠ (s_.1 : Value).ownBlock ∧ some k_ ≠ (s_.2 : Value).ownBlock) vz29 yz28) ∧ (Kd.R (Kd.int .u8) 5 w' w.heap.size (fun k_ => some k_ ≠ (vz29 : Value).ownBlock ∧ some k_ ≠ (s_.1 : Value).ownBlock ∧ some k_ ≠ (s_.2 : Value).ownBlock) vz33 yz32) ∧ (Kd.R (Kd.int .u8) 5 w' w.heap.size (fun k_ => some k_ ≠ (vz29 : Value).ownBlock ∧ some k_ ≠ (vz33 : Value).ownBlock ∧ some k_ ≠ (s_.2 : Value).ownBlock) s_.1 yz59) ∧ (Kd.R (Kd.int .u8) 5 w' w.heap.size (fun k_ => some k_ ≠ (vz29 : Value).ownBlock ∧ some k_ ≠ (vz33 : Value).ownBlock ∧ some k_ ≠ (s_.1 : Value).ownBlock) s_.2 yz62) ∧ (Kd.R k72 72 w' w.heap.size (fun k_ => some k_ ≠ (uz28002 : Value).ownBlock) (.slice Ao84 xz15002_2.length co84) xz15002_2) ∧ (Kd.R k74 74 w' w.heap.size (fun k_ => some k_ ≠ (uz28003 : Value).ownBlock) (.slice Ao85 xz15003_2.length co85) xz15003_2) ∧ (Kd.R k72 72 w' w.heap.size (fun k_ => some k_ ≠ (.slice Ao84 xz15002_2.length co84 : Value).ownBlock) uz28002 xz28002_2) ∧ (Kd.R k74 74 w' w.heap.size (fun k_ => some k_ ≠ (.slice Ao85 xz15003_2.length co85 : Value).ownBlock) uz28003 xz28003_2) ∧ (w'.heap[gbz14]? = some (.cells #[.string xz15000_2, .int .i64 xz15001_2, .slice Ao84 xz15002_2.length co84, .slice Ao85 xz15003_2.length co85, .bool xz15004_2] 50 (0, 0))) ∧ (w'.heap[gbz27]? = some (.cells #[.string xz28000_2, .int .i64 xz28001_2, uz28002, uz28003, .bool xz28004_2] 50 (0, 0))) ∧ (Below w.heap.size w w')) ?_ ?_
   rotate_left
   ·intro hJ2_5_6
    refine join_ (σ := Value) 10 #[true, true, true, true, true, false, false, false, false, false, false, false, false, false, false] (fun s_ => [(85, s_), (86, .string (strOfNums yz59)), (87, .string sx65)]) (fun s_ w' => (w'.cell? ⟨gbz14, 0, none⟩ = some (.string xz15000_2) ∧ w'.cell? ⟨gbz14, 1, none⟩ = some (.int .i64 xz15001_2) ∧ w'.cell? ⟨gbz14, 2, none⟩ = some (.slice Ao84 xz15002_2.length co84) ∧ w'.cell? ⟨gbz14, 3, none⟩ = some (.slice Ao85 xz15003_2.length co85) ∧ w'.cell? ⟨gbz14, 4, none⟩ = some (.bool xz15004_2)) ∧ (Kd.R (Kd.int .u8) 5 w' w.heap.size (fun k_ => some k_ ≠ (vz33 : Value).ownBlock ∧ some k_ ≠ (s_ : Value).ownBlock) vz29 yz28) ∧ (Kd.R (Kd.int .u8) 5 w' w.heap.size (fun k_ => some k_ ≠ (vz29 : Value).ownBlock ∧ some k_ ≠ (s_ : Value).ownBlock) vz33 yz32) ∧ (Kd.R (Kd.int .u8) 5 w' w.heap.size (fun k_ => some k_ ≠ (vz29 : Value).ownBlock ∧ some k_ ≠ (vz33 : Value).ownBlock) s_ yz59) ∧ (Kd.R k72 72 w' w.heap.size (fun k_ => some k_ ≠ (uz28002 : Value).ownBlock) (.slice Ao84 xz15002_2.length co84) xz15002_2) ∧ (Kd.R k74 74 w' w.heap.size (fun k_ => some k_ ≠ (uz28003 : Value).ownBlock) (.slice Ao85 xz15003_2.length co85) xz15003_2) ∧ (Kd.R k72 72 w' w.heap.size (fun k_ => some k_ ≠ (.slice Ao84 xz15002_2.length co84 : Value).ownBlock) uz28002 xz28002_2) ∧ (Kd.R k74 74 w' w.heap.size (fun k_ => some k_ ≠ (.slice Ao85 xz15003_2.length co85 : Value).ownBlock) uz28003 xz28003_2) ∧ (w'.heap[gbz14]? = some (.cells #[.string xz15000_2, .int .i64 xz15001_2, .slice Ao84 xz15002_2.length co84, .slice Ao85 xz15003_2.length co85, .bool xz15004_2] 50 (0, 0))) ∧ (w'.heap[gbz27]? = some (.cells #[.string xz28000_2, .int .i64 xz28001_2, uz28002, uz28003, .bool xz28004_2] 50 (0, 0))) ∧ (Below w.heap.size w w')) ?_ ?_
    rotate_left
    ·intro hJ2_3
     refine join_ (σ := Value × Value) 11 #[true, true, true, false, false, true, false, false, false, false, false, false, false, false, false] (fun s_ => [(85, s_.1), (88, s_.2)]) (fun s_ w' => (w'.cell? ⟨gbz14, 0, none⟩ = some (.string xz15000_2) ∧ w'.cell? ⟨gbz14, 1, none⟩ = some (.int .i64 xz15001_2) ∧ w'.cell? ⟨gbz14, 2, none⟩ = some (.slice Ao84 xz15002_2.length co84) ∧ w'.cell? ⟨gbz14, 3, none⟩ = some (.slice Ao85 xz15003_2.length co85) ∧ w'.cell? ⟨gbz14, 4, none⟩ = some (.bool xz15004_2)) ∧ (Kd.R (Kd.int .u8) 5 w' w.heap.size (fun k_ => some k_ ≠ (vz33 : Value).ownBlock ∧ some k_ ≠ (s_.1 : Value).ownBlock ∧ some k_ ≠ (s_.2 : Value).ownBlock) vz29 yz28) ∧ (Kd.R (Kd.int .u8) 5 w' w.heap.size (fun k_ => some k_ ≠ (vz29 : Value).ownBlock ∧ some k_ ≠ (s_.1 : Value).ownBlock ∧ some k_ ≠ (s_.2 : Value).ownBlock) vz33 yz32) ∧ (Kd.R (Kd.int .u8) 5 w' w.heap.size (fun k_ => some k_ ≠ (vz29 : Value).ownBlock ∧ some k_ ≠ (vz33 : Value).ownBlock ∧ some k_ ≠ (s_.2 : Value).ownBlock) s_.1 yz59) ∧ (Kd.R (Kd.int .u8) 5 w' w.heap.size (fun k_ => some k_ ≠ (vz29 : Value).ownBlock ∧ some k_ ≠ (vz33 : Value).ownBlock ∧ some k_ ≠ (s_.1 : Value).ownBlock) s_.2 yz62) ∧ (Kd.R k72 72 w' w.heap.size (fun k_ => some k_ ≠ (uz28002 : Value).ownBlock) (.slice Ao84 xz15002_2.length co84) xz15002_2) ∧ (Kd.R k74 74 w' w.heap.size (fun k_ => some k_ ≠ (uz28003 : Value).ownBlock) (.slice Ao85 xz15003_2.length co85) xz15003_2) ∧ (Kd.R k72 72 w' w.heap.size (fun k_ => some k_ ≠ (.slice Ao84 xz15002_2.length co84 : Value).ownBlock) uz28002 xz28002_2) ∧ (Kd.R k74 74 w' w.heap.size (fun k_ => some k_ ≠ (.slice Ao85 xz15003_2.length co85 : Value).ownBlock) uz28003 xz28003_2) ∧ (w'.heap[gbz14]? = some (.cells #[.string xz15000_2, .int .i64 xz15001_2, .slice Ao84 xz15002_2.length co84, .slice Ao85 xz15003_2.length co85, .bool xz15004_2] 50 (0, 0))) ∧ (w'.heap[gbz27]? = some (.cells #[.string xz28000_2, .int .i64 xz28001_2, uz28002, uz28003, .bool xz28004_2] 50 (0, 0))) ∧ (Below w.heap.size w w')) ?_ ?_
     rotate_left
     ·intro hJ2_5
      refine join_ (σ := Value) 11 #[true, true, false, false, false, true, true, false, false, false, false, false, false, false, false] (fun s_ => [(88, s_), (89, .string (strOfNums yz62))]) (fun s_ w' => (w'.cell? ⟨gbz14, 0, none⟩ = some (.string xz15000_2) ∧ w'.cell? ⟨gbz14, 1, none⟩ = some (.int .i64 xz15001_2) ∧ w'.cell? ⟨gbz14, 2, none⟩ = some (.slice Ao84 xz15002_2.length co84) ∧ w'.cell? ⟨gbz14, 3, none⟩ = some (.slice Ao85 xz15003_2.length co85) ∧ w'.cell? ⟨gbz14, 4, none⟩ = some (.bool xz15004_2)) ∧ (Kd.R (Kd.int .u8) 5 w' w.heap.size (fun k_ => some k_ ≠ (vz33 : Value).ownBlock ∧ some k_ ≠ (s_ : Value).ownBlock) vz29 yz28) ∧ (Kd.R (Kd.int .u8) 5 w' w.heap.size (fun k_ => some k_ ≠ (vz29 : Value).ownBlock ∧ some k_ ≠ (s_ : Value).ownBlock) vz33 yz32) ∧ (Kd.R (Kd.int .u8) 5 w' w.heap.size (fun k_ => some k_ ≠ (vz29 : Value).ownBlock ∧ some k_ ≠ (vz33 : Value).ownBlock) s_ yz62) ∧ (Kd.R k72 72 w' w.heap.size (fun k_ => some k_ ≠ (uz28002 : Value).ownBlock) (.slice Ao84 xz15002_2.length co84) xz15002_2) ∧ (Kd.R k74 74 w' w.heap.size (fun k_ => some k_ ≠ (uz28003 : Value).ownBlock) (.slice Ao85 xz15003_2.length co85) xz15003_2) ∧ (Kd.R k72 72 w' w.heap.size (fun k_ => some k_ ≠ (.slice Ao84 xz15002_2.length co84 : Value).ownBlock) uz28002 xz28002_2) ∧ (Kd.R k74 74 w' w.heap.size (fun k_ => some k_ ≠ (.slice Ao85 xz15003_2.length co85 : Value).ownBlock) uz28003 xz28003_2) ∧ (w'.heap[gbz14]? = some (.cells #[.string xz15000_2, .int .i64 xz15001_2, .slice Ao84 xz15002_2.length co84, .slice Ao85 xz15003_2.length co85, .bool xz15004_2] 50 (0, 0))) ∧ (w'.heap[gbz27]? = some (.cells #[.string xz28000_2, .int .i64 xz28001_2, uz28002, uz28003, .bool xz28004_2] 50 (0, 0))) ∧ (Below w.heap.size w w')) ?_ ?_
      rotate_left
      ·intro hJ5_6
       refine join_ (σ := Value) 12 #[true, true, true, false, false, false, false, false, false, false, false, false, false, false, false] (fun s_ => [(85, s_)]) (fun s_ w' => (w'.cell? ⟨gbz14, 0, none⟩ = some (.string xz15000_2) ∧ w'.cell? ⟨gbz14, 1, none⟩ = some (.int .i64 xz15001_2) ∧ w'.cell? ⟨gbz14, 2, none⟩ = some (.slice Ao84 xz15002_2.length co84) ∧ w'.cell? ⟨gbz14, 3, none⟩ = some (.slice Ao85 xz15003_2.length co85) ∧ w'.cell? ⟨gbz14, 4, none⟩ = some (.bool xz15004_2)) ∧ (Kd.R (Kd.int .u8) 5 w' w.heap.size (fun k_ => some k_ ≠ (vz33 : Value).ownBlock ∧ some k_ ≠ (s_ : Value).ownBlock) vz29 yz28) ∧ (Kd.R (Kd.int .u8) 5 w' w.heap.size (fun k_ => some k_ ≠ (vz29 : Value).ownBlock ∧ some k_ ≠ (s_ : Value).ownBlock) vz33 yz32) ∧ (Kd.R (Kd.int .u8) 5 w' w.heap.size (fun k_ => some k_ ≠ (vz29 : Value).ownBlock ∧ some k_ ≠ (vz33 : Value).ownBlock) s_ yz59) ∧ (Kd.R k72 72 w' w.heap.size (fun k_ => some k_ ≠ (uz28002 : Value).ownBlock) (.slice Ao84 xz15002_2.length co84) xz15002_2) ∧ (Kd.R k74 74 w' w.heap.size (fun k_ => some k_ ≠ (uz28003 : Value).ownBlock) (.slice Ao85 xz15003_2.length co85) xz15003_2) ∧ (Kd.R k72 72 w' w.heap.size (fun k_ => some k_ ≠ (.slice Ao84 xz15002_2.length co84 : Value).ownBlock) uz28002 xz28002_2) ∧ (Kd.R k74 74 w' w.heap.size (fun k_ => some k_ ≠ (.slice Ao85 xz15003_2.length co85 : Value).ownBlock) uz28003 xz28003_2) ∧ (w'.heap[gbz14]? = some (.cells #[.string xz15000_2, .int .i64 xz15001_2, .slice Ao84 xz15002_2.length co84, .slice Ao85 xz15003_2.length co85, .bool xz15004_2] 50 (0, 0))) ∧ (w'.heap[gbz27]? = some (.cells #[.string xz28000_2, .int .i64 xz28001_2, uz28002, uz28003, .bool xz28004_2] 50 (0, 0))) ∧ (Below w.heap.size w w')) ?_ ?_
       rotate_left
       ·intro hJ2
        refine join_ (σ := Value) 12 #[true, true, false, false, false, true, false, false, false, false, false, false, false, false, false] (fun s_ => [(88, s_)]) (fun s_ w' => (w'.cell? ⟨gbz14, 0, none⟩ = some (.string xz15000_2) ∧ w'.cell? ⟨gbz14, 1, none⟩ = some (.int .i64 xz15001_2) ∧ w'.cell? ⟨gbz14, 2, none⟩ = some (.slice Ao84 xz15002_2.length co84) ∧ w'.cell? ⟨gbz14, 3, none⟩ = some (.slice Ao85 xz15003_2.length co85) ∧ w'.cell? ⟨gbz14, 4, none⟩ = some (.bool xz15004_2)) ∧ (Kd.R (Kd.int .u8) 5 w' w.heap.size (fun k_ => some k_ ≠ (vz33 : Value).ownBlock ∧ some k_ ≠ (s_ : Value).ownBlock) vz29 yz28) ∧ (Kd.R (Kd.int .u8) 5 w' w.heap.size (fun k_ => some k_ ≠ (vz29 : Value).ownBlock ∧ some k_ ≠ (s_ : Value).ownBlock) vz33 yz32) ∧ (Kd.R (Kd.int .u8) 5 w' w.heap.size (fun k_ => some k_ ≠ (vz29 : Value).ownBlock ∧ some k_ ≠ (vz33 : Value).ownBlock) s_ yz62) ∧ (Kd.R k72 72 w' w.heap.size (fun k_ => some k_ ≠ (uz28002 : Value).ownBlock) (.slice Ao84 xz15002_2.length co84) xz15002_2) ∧ (Kd.R k74 74 w' w.heap.size (fun k_ => some k_ ≠ (uz28003 : Value).ownBlock) (.slice Ao85 xz15003_2.length co85) xz15003_2) ∧ (Kd.R k72 72 w' w.heap.size (fun k_ => some k_ ≠ (.slice Ao84 xz15002_2.length co84 : Value).ownBlock) uz28002 xz28002_2) ∧ (Kd.R k74 74 w' w.heap.size (fun k_ => some k_ ≠ (.slice Ao85 xz15003_2.length co85 : Value).ownBlock) uz28003 xz28003_2) ∧ (w'.heap[gbz14]? = some (.cells #[.string xz15000_2, .int .i64 xz15001_2, .slice Ao84 xz15002_2.length co84, .slice Ao85 xz15003_2.length co85, .bool xz15004_2] 50 (0, 0))) ∧ (w'.heap[gbz27]? = some (.cells #[.string xz28000_2, .int .i64 xz28001_2, uz28002, uz28003, .bool xz28004_2] 50 (0, 0))) ∧ (Below w.heap.size w w')) ?_ ?_
        rotate_left
        ·intro hJ5
         refine two_ (i := 2) (j := 5) (Ni := some 85) (Nj := some 88) #[true, true, true, false, false, false, false, false, false, false, false, false, false, false, false] #[true, true, false, false, false, true, false, false, false, false, false, false, false, false, false] rfl rfl rfl rfl (two_of HT_.out (by kernel_rfl)) (by decide) (by decide) (fun K hK => ?_) (fun K hK => ?_)
         rotate_left
         ·skip
          refine Kd.R_make_step (Kd.int .u8) _ 5 (by rfl) (N := 88) rfl 57 _ _ rfl 24 rfl rfl Try.underlying57 (.int .u8 0) 1 info5 rfl (by decide) (by omega) 0 (ok := fun _ => True) (okp := fun _ => True) rfl (fun _ hk => hk) trivial (by omega) (by omega) (Below.refl _ _) (Nat.le_refl _) ?_
          intro vz63 w87 ho88 hb hg_ hnew_
          clear hg_ hnew_
          (first | rw [← Nyz62.out] at ho88 | (simp only [Int.reduceToNat] at ho88; rw [← Nyz62.out] at ho88))
          have n0_ := am (Kd.R_below (pr HO_z15002) hb)
          have n1_ := am (Kd.R_below (pr HO_z15003) hb)
          have n2_ := am (Kd.R_below (pr HO_z28002) hb)
          have n3_ := am (Kd.R_below (pr HO_z28003) hb)
          have n4_ := am (Kd.R_elder' (pr HOz30) (Kd.R_base ho88) hb)
          have n5_ := am (Kd.R_elder' (pr HOz34) (Kd.R_base ho88) hb)
          have n6_ := am (Kd.R_lower (Kd.R_new' (Kd.R_new' ho88 (Kd.R_lt (pr HOz30))) (Kd.R_lt (pr HOz34))) (below_size (by repeat (first | (with_reducible first | exact HB.out | apply below_alloc | apply pw_below_drewN | apply below_drew1 | refine below_set ?_ GEz14.out | refine below_set ?_ GEz27.out) | exact HB.out))))
          have n7_ := am (blk_below (pk BKz14) hb)
          have n8_ := am (blk_below (pk BKz27) hb)
          have n9_ := am (below_step (by repeat (first | (with_reducible first | exact HB.out | apply below_alloc | apply pw_below_drewN | apply below_drew1 | refine below_set ?_ GEz14.out | refine below_set ?_ GEz27.out) | exact HB.out)) hb)
          clear HO_z15002 HO_z15003 HO_z28002 HO_z28003 HOz30 HOz34 BKz14 BKz27 HB; have HO_z15002 := n0_; have HO_z15003 := n1_; have HO_z28002 := n2_; have HO_z28003 := n3_; have HOz30 := n4_; have HOz34 := n5_; have HOz64 := n6_; have BKz14 := n7_; have BKz27 := n8_; have HB := n9_; clear n0_ n1_ n2_ n3_ n4_ n5_ n6_ n7_ n8_ n9_; clear hb ho88
          refine hK.out _ _ (bc5 BKz14) (fun hHeld => ?_)
          clear hK K
          refine norm_ (by show Act.put _ (some 88) _ = _; simp only [Act.put, sa_, s0_, s1_, i64_w, i32_w]; rfl) ?_
          exact norm_ (by simp only [putAll, Act.put, sa_, s0_, s1_] <;> rfl) (hJ5 (vz63) _ ⟨hHeld, (pm HOz30 (fun _ hk => ⟨hk.1, hk.2⟩)), (pm HOz34 (fun _ hk => ⟨hk.1, hk.2⟩)), (pm HOz64 (fun _ hk => ⟨hk.1.2, hk.2⟩)), (pr HO_z15002), (pr HO_z15003), (pr HO_z28002), (pr HO_z28003), (pk BKz14), (pk BKz27), (by repeat (first | (with_reducible first | exact HB.out | apply below_alloc | apply pw_below_drewN | apply below_drew1 | refine below_set ?_ GEz14.out | refine below_set ?_ GEz27.out) | exact HB.out))⟩)
         skip
         refine Kd.R_make_step (Kd.int .u8) _ 5 (by rfl) (N := 85) rfl 57 _ _ rfl 15 rfl rfl Try.underlying57 (.int .u8 0) 1 info5 rfl (by decide) (by omega) 0 (ok := fun _ => True) (okp := fun _ => True) rfl (fun _ hk => hk) trivial (by omega) (by omega) (Below.refl _ _) (Nat.le_refl _) ?_
         intro vz60 w87 ho88 hb hg_ hnew_
         clear hg_ hnew_
         (first | rw [← Nyz59.out] at ho88 | (simp only [Int.reduceToNat] at ho88; rw [← Nyz59.out] at ho88))
         have n0_ := am (Kd.R_below (pr HO_z15002) hb)
         have n1_ := am (Kd.R_below (pr HO_z15003) hb)
         have n2_ := am (Kd.R_below (pr HO_z28002) hb)
         have n3_ := am (Kd.R_below (pr HO_z28003) hb)
         have n4_ := am (Kd.R_elder' (pr HOz30) (Kd.R_base ho88) hb)
         have n5_ := am (Kd.R_elder' (pr HOz34) (Kd.R_base ho88) hb)
         have n6_ := am (Kd.R_lower (Kd.R_new' (Kd.R_new' ho88 (Kd.R_lt (pr HOz30))) (Kd.R_lt (pr HOz34))) (below_size (by repeat (first | (with_reducible first | exact HB.out | apply below_alloc | apply pw_below_drewN | apply below_drew1 | refine below_set ?_ GEz14.out | refine below_set ?_ GEz27.out) | exact HB.out))))
         have n7_ := am (blk_below (pk BKz14) hb)
         have n8_ := am (blk_below (pk BKz27) hb)
         have n9_ := am (below_step (by repeat (first | (with_reducible first | exact HB.out | apply below_alloc | apply pw_below_drewN | apply below_drew1 | refine below_set ?_ GEz14.out | refine below_set ?_ GEz27.out) | exact HB.out)) hb)
         clear HO_z15002 HO_z15003 HO_z28002 HO_z28003 HOz30 HOz34 BKz14 BKz27 HB; have HO_z15002 := n0_; have HO_z15003 := n1_; have HO_z28002 := n2_; have HO_z28003 := n3_; have HOz30 := n4_; have HOz34 := n5_; have HOz61 := n6_; have BKz14 := n7_; have BKz27 := n8_; have HB := n9_; clear n0_ n1_ n2_ n3_ n4_ n5_ n6_ n7_ n8_ n9_; clear hb ho88
         refine hK.out _ _ (bc5 BKz14) (fun hHeld => ?_)
         clear hK K
         refine norm_ (by show Act.put _ (some 85) _ = _; simp only [Act.put, sa_, s0_, s1_, i64_w, i32_w]; rfl) ?_
         exact norm_ (by simp only [putAll, Act.put, sa_, s0_, s1_] <;> rfl) (hJ2 (vz60) _ ⟨hHeld, (pm HOz30 (fun _ hk => ⟨hk.1, hk.2⟩)), (pm HOz34 (fun _ hk => ⟨hk.1, hk.2⟩)), (pm HOz61 (fun _ hk => ⟨hk.1.2, hk.2⟩)), (pr HO_z15002), (pr HO_z15003), (pr HO_z28002), (pr HO_z28003), (pk BKz14), (pk BKz27), (by repeat (first | (with_reducible first | exact HB.out | apply below_alloc | apply pw_below_drewN | apply below_drew1 | refine below_set ?_ GEz14.out | refine below_set ?_ GEz27.out) | exact HB.out))⟩)
        ·skip
         rintro vz63 w89 ⟨hS_, h0_, h1_, h2_, h3_, h4_, h5_, h6_, h7_, h8_, h9_⟩
         have n0_ : Aside0 (Kd.R (Kd.int .u8) 5 w89 w.heap.size (fun k_ => some k_ ≠ (vz33 : Value).ownBlock ∧ some k_ ≠ (vz63 : Value).ownBlock) vz29 yz28) := ⟨h0_⟩
         have n1_ : Aside0 (Kd.R (Kd.int .u8) 5 w89 w.heap.size (fun k_ => some k_ ≠ (vz29 : Value).ownBlock ∧ some k_ ≠ (vz63 : Value).ownBlock) vz33 yz32) := ⟨h1_⟩
         have n2_ : Aside0 (Kd.R (Kd.int .u8) 5 w89 w.heap.size (fun k_ => some k_ ≠ (vz29 : Value).ownBlock ∧ some k_ ≠ (vz33 : Value).ownBlock) vz63 yz62) := ⟨h2_⟩
         have n3_ : Aside0 (Kd.R k72 72 w89 w.heap.size (fun k_ => some k_ ≠ (uz28002 : Value).ownBlock) (.slice Ao84 xz15002_2.length co84) xz15002_2) := ⟨h3_⟩
         have n4_ : Aside0 (Kd.R k74 74 w89 w.heap.size (fun k_ => some k_ ≠ (uz28003 : Value).ownBlock) (.slice Ao85 xz15003_2.length co85) xz15003_2) := ⟨h4_⟩
         have n5_ : Aside0 (Kd.R k72 72 w89 w.heap.size (fun k_ => some k_ ≠ (.slice Ao84 xz15002_2.length co84 : Value).ownBlock) uz28002 xz28002_2) := ⟨h5_⟩
         have n6_ : Aside0 (Kd.R k74 74 w89 w.heap.size (fun k_ => some k_ ≠ (.slice Ao85 xz15003_2.length co85 : Value).ownBlock) uz28003 xz28003_2) := ⟨h6_⟩
         have n7_ : Aside0 (w89.heap[gbz14]? = some (.cells #[.string xz15000_2, .int .i64 xz15001_2, .slice Ao84 xz15002_2.length co84, .slice Ao85 xz15003_2.length co85, .bool xz15004_2] 50 (0, 0))) := ⟨h7_⟩
         have n8_ : Aside0 (w89.heap[gbz27]? = some (.cells #[.string xz28000_2, .int .i64 xz28001_2, uz28002, uz28003, .bool xz28004_2] 50 (0, 0))) := ⟨h8_⟩
         have n9_ : Aside0 (Below w.heap.size w w89) := ⟨h9_⟩
         clear HO_z15002 HO_z15003 HO_z28002 HO_z28003 HOz30 HOz34 BKz14 BKz27 HB h0_ h1_ h2_ h3_ h4_ h5_ h6_ h7_ h8_ h9_; have HOz30 := n0_; have HOz34 := n1_; have HOz64 := n2_; have HO_z15002 := n3_; have HO_z15003 := n4_; have HO_z28002 := n5_; have HO_z28003 := n6_; have BKz14 := n7_; have BKz27 := n8_; have HB := n9_; clear n0_ n1_ n2_ n3_ n4_ n5_ n6_ n7_ n8_ n9_
         have hHeld : w89.cell? ⟨gbz14, 0, none⟩ = some (.string xz15000_2) ∧ w89.cell? ⟨gbz14, 1, none⟩ = some (.int .i64 xz15001_2) ∧ w89.cell? ⟨gbz14, 2, none⟩ = some (.slice Ao84 xz15002_2.length co84) ∧ w89.cell? ⟨gbz14, 3, none⟩ = some (.slice Ao85 xz15003_2.length co85) ∧ w89.cell? ⟨gbz14, 4, none⟩ = some (.bool xz15004_2) := hS_
         refine norm_ (by simp only [putAll, Act.put, List.setIfInBounds_toArray, List.set_cons_zero, List.set_cons_succ]; rfl) ?_
         refine two_ (i := 2) (j := 6) (Ni := some 85) (Nj := some 89) #[true, true, true, false, false, true, false, false, false, false, false, false, false, false, false] #[true, true, false, false, false, true, true, false, false, false, false, false, false, false, false] rfl rfl rfl rfl (two_of HT_.out (by kernel_rfl)) (by decide) (by decide) (fun K hK => ?_) (fun K hK => ?_)
         rotate_left
         ·skip
          have hcv90 := own_string (P := Try.prog) Try.underlying57 Try.underlying5 Try.underlying9 (Kd.own_of_R HOz64.out)
          refine value_ (w1 := ?_) (v := ?_) (by rfl) rfl ?_ ?_
          rotate_left 2
          ·go_simp
           constructor
           rotate_left
           ·rfl
           rfl
          clear hcv90
          refine hK.out _ _ (bc5 BKz14) (fun hHeld => ?_)
          clear hK K
          refine norm_ (by show Act.put _ (some 89) _ = _; simp only [Act.put, sa_, s0_, s1_, i64_w, i32_w]; rfl) ?_
          exact norm_ (by simp only [putAll, Act.put, sa_, s0_, s1_] <;> rfl) (hJ5_6 (vz63) _ ⟨hHeld, (pr HOz30), (pr HOz34), (pr HOz64), (pr HO_z15002), (pr HO_z15003), (pr HO_z28002), (pr HO_z28003), (pk BKz14), (pk BKz27), (by repeat (first | (with_reducible first | exact HB.out | apply below_alloc | apply pw_below_drewN | apply below_drew1 | refine below_set ?_ GEz14.out | refine below_set ?_ GEz27.out) | exact HB.out))⟩)
         skip
         refine Kd.R_make_step (Kd.int .u8) _ 5 (by rfl) (N := 85) rfl 57 _ _ rfl 15 rfl rfl Try.underlying57 (.int .u8 0) 1 info5 rfl (by decide) (by omega) 0 (ok := fun _ => True) (okp := fun _ => True) rfl (fun _ hk => hk) trivial (by omega) (by omega) (Below.refl _ _) (Nat.le_refl _) ?_
         intro vz60 w90 ho91 hb hg_ hnew_
         clear hg_ hnew_
         (first | rw [← Nyz59.out] at ho91 | (simp only [Int.reduceToNat] at ho91; rw [← Nyz59.out] at ho91))
         have n0_ := am (Kd.R_below (pr HO_z15002) hb)
         have n1_ := am (Kd.R_below (pr HO_z15003) hb)
         have n2_ := am (Kd.R_below (pr HO_z28002) hb)
         have n3_ := am (Kd.R_below (pr HO_z28003) hb)
         have n4_ := am (Kd.R_elder' (pr HOz30) (Kd.R_base ho91) hb)
         have n5_ := am (Kd.R_elder' (pr HOz34) (Kd.R_base ho91) hb)
         have n6_ := am (Kd.R_elder' (pr HOz64) (Kd.R_base ho91) hb)
         have n7_ := am (Kd.R_lower (Kd.R_new' (Kd.R_new' (Kd.R_new' ho91 (Kd.R_lt (pr HOz30))) (Kd.R_lt (pr HOz34))) (Kd.R_lt (pr HOz64))) (below_size (by repeat (first | (with_reducible first | exact HB.out | apply below_alloc | apply pw_below_drewN | apply below_drew1 | refine below_set ?_ GEz14.out | refine below_set ?_ GEz27.out) | exact HB.out))))
         have n8_ := am (blk_below (pk BKz14) hb)
         have n9_ := am (blk_below (pk BKz27) hb)
         have n10_ := am (below_step (by repeat (first | (with_reducible first | exact HB.out | apply below_alloc | apply pw_below_drewN | apply below_drew1 | refine below_set ?_ GEz14.out | refine below_set ?_ GEz27.out) | exact HB.out)) hb)
         clear HO_z15002 HO_z15003 HO_z28002 HO_z28003 HOz30 HOz34 HOz64 BKz14 BKz27 HB; have HO_z15002 := n0_; have HO_z15003 := n1_; have HO_z28002 := n2_; have HO_z28003 := n3_; have HOz30 := n4_; have HOz34 := n5_; have HOz64 := n6_; have HOz61 := n7_; have BKz14 := n8_; have BKz27 := n9_; have HB := n10_; clear n0_ n1_ n2_ n3_ n4_ n5_ n6_ n7_ n8_ n9_ n10_; clear hb ho91
         refine hK.out _ _ (bc5 BKz14) (fun hHeld => ?_)
         clear hK K
         refine norm_ (by show Act.put _ (some 85) _ = _; simp only [Act.put, sa_, s0_, s1_, i64_w, i32_w]; rfl) ?_
         exact norm_ (by simp only [putAll, Act.put, sa_, s0_, s1_] <;> rfl) (hJ2_5 (vz60, vz63) _ ⟨hHeld, (pm HOz30 (fun _ hk => ⟨hk.1.1, ⟨hk.2, hk.1.2⟩⟩)), (pm HOz34 (fun _ hk => ⟨hk.1.1, ⟨hk.2, hk.1.2⟩⟩)), (pm HOz61 (fun _ hk => ⟨hk.1.1.2, ⟨hk.1.2, hk.2⟩⟩)), (pm HOz64 (fun _ hk => ⟨hk.1.1, ⟨hk.1.2, hk.2⟩⟩)), (pr HO_z15002), (pr HO_z15003), (pr HO_z28002), (pr HO_z28003), (pk BKz14), (pk BKz27), (by repeat (first | (with_reducible first | exact HB.out | apply below_alloc | apply pw_below_drewN | apply below_drew1 | refine below_set ?_ GEz14.out | refine below_set ?_ GEz27.out) | exact HB.out))⟩)
       ·skip
        rintro vz60 w89 ⟨hS_, h0_, h1_, h2_, h3_, h4_, h5_, h6_, h7_, h8_, h9_⟩
        have n0_ : Aside0 (Kd.R (Kd.int .u8) 5 w89 w.heap.size (fun k_ => some k_ ≠ (vz33 : Value).ownBlock ∧ some k_ ≠ (vz60 : Value).ownBlock) vz29 yz28) := ⟨h0_⟩
        have n1_ : Aside0 (Kd.R (Kd.int .u8) 5 w89 w.heap.size (fun k_ => some k_ ≠ (vz29 : Value).ownBlock ∧ some k_ ≠ (vz60 : Value).ownBlock) vz33 yz32) := ⟨h1_⟩
        have n2_ : Aside0 (Kd.R (Kd.int .u8) 5 w89 w.heap.size (fun k_ => some k_ ≠ (vz29 : Value).ownBlock ∧ some k_ ≠ (vz33 : Value).ownBlock) vz60 yz59) := ⟨h2_⟩
        have n3_ : Aside0 (Kd.R k72 72 w89 w.heap.size (fun k_ => some k_ ≠ (uz28002 : Value).ownBlock) (.slice Ao84 xz15002_2.length co84) xz15002_2) := ⟨h3_⟩
        have n4_ : Aside0 (Kd.R k74 74 w89 w.heap.size (fun k_ => some k_ ≠ (uz28003 : Value).ownBlock) (.slice Ao85 xz15003_2.length co85) xz15003_2) := ⟨h4_⟩
        have n5_ : Aside0 (Kd.R k72 72 w89 w.heap.size (fun k_ => some k_ ≠ (.slice Ao84 xz15002_2.length co84 : Value).ownBlock) uz28002 xz28002_2) := ⟨h5_⟩
        have n6_ : Aside0 (Kd.R k74 74 w89 w.heap.size (fun k_ => some k_ ≠ (.slice Ao85 xz15003_2.length co85 : Value).ownBlock) uz28003 xz28003_2) := ⟨h6_⟩
        have n7_ : Aside0 (w89.heap[gbz14]? = some (.cells #[.string xz15000_2, .int .i64 xz15001_2, .slice Ao84 xz15002_2.length co84, .slice Ao85 xz15003_2.length co85, .bool xz15004_2] 50 (0, 0))) := ⟨h7_⟩
        have n8_ : Aside0 (w89.heap[gbz27]? = some (.cells #[.string xz28000_2, .int .i64 xz28001_2, uz28002, uz28003, .bool xz28004_2] 50 (0, 0))) := ⟨h8_⟩
        have n9_ : Aside0 (Below w.heap.size w w89) := ⟨h9_⟩
        clear HO_z15002 HO_z15003 HO_z28002 HO_z28003 HOz30 HOz34 BKz14 BKz27 HB h0_ h1_ h2_ h3_ h4_ h5_ h6_ h7_ h8_ h9_; have HOz30 := n0_; have HOz34 := n1_; have HOz61 := n2_; have HO_z15002 := n3_; have HO_z15003 := n4_; have HO_z28002 := n5_; have HO_z28003 := n6_; have BKz14 := n7_; have BKz27 := n8_; have HB := n9_; clear n0_ n1_ n2_ n3_ n4_ n5_ n6_ n7_ n8_ n9_
        have hHeld : w89.cell? ⟨gbz14, 0, none⟩ = some (.string xz15000_2) ∧ w89.cell? ⟨gbz14, 1, none⟩ = some (.int .i64 xz15001_2) ∧ w89.cell? ⟨gbz14, 2, none⟩ = some (.slice Ao84 xz15002_2.length co84) ∧ w89.cell? ⟨gbz14, 3, none⟩ = some (.slice Ao85 xz15003_2.length co85) ∧ w89.cell? ⟨gbz14, 4, none⟩ = some (.bool xz15004_2) := hS_
        refine norm_ (by simp only [putAll, Act.put, List.setIfInBounds_toArray, List.set_cons_zero, List.set_cons_succ]; rfl) ?_
        refine two_ (i := 3) (j := 5) (Ni := some 86) (Nj := some 88) #[true, true, true, true, false, false, false, false, false, false, false, false, false, false, false] #[true, true, true, false, false, true, false, false, false, false, false, false, false, false, false] rfl rfl rfl rfl (two_of HT_.out (by kernel_rfl)) (by decide) (by decide) (fun K hK => ?_) (fun K hK => ?_)
        ·skip
         have hcv90 := own_string (P := Try.prog) Try.underlying57 Try.underlying5 Try.underlying9 (Kd.own_of_R HOz61.out)
         refine value_ (w1 := ?_) (v := ?_) (by rfl) rfl ?_ ?_
         rotate_left 2
         ·go_simp
          constructor
          rotate_left
          ·rfl
          rfl
         clear hcv90
         refine hK.out _ _ (bc5 BKz14) (fun hHeld => ?_)
         clear hK K
         refine norm_ (by show Act.put _ (some 86) _ = _; simp only [Act.put, sa_, s0_, s1_, i64_w, i32_w]; rfl) ?_
         refine pu_ 4 (some 87) HT_ rfl rfl (by kernel_rfl) (fun _ _ _ h => h) (.inl ⟨by rfl, by intro w'; go_simp; with_reducible rfl⟩) (by simp only [Act.put, sa_, s0_, s1_, i64_w, i32_w]; rfl) ?_
         exact norm_ (by simp only [putAll, Act.put, sa_, s0_, s1_] <;> rfl) (hJ2_3 (vz60) _ ⟨hHeld, (pr HOz30), (pr HOz34), (pr HOz61), (pr HO_z15002), (pr HO_z15003), (pr HO_z28002), (pr HO_z28003), (pk BKz14), (pk BKz27), (by repeat (first | (with_reducible first | exact HB.out | apply below_alloc | apply pw_below_drewN | apply below_drew1 | refine below_set ?_ GEz14.out | refine below_set ?_ GEz27.out) | exact HB.out))⟩)
        skip
        refine Kd.R_make_step (Kd.int .u8) _ 5 (by rfl) (N := 88) rfl 57 _ _ rfl 24 rfl rfl Try.underlying57 (.int .u8 0) 1 info5 rfl (by decide) (by omega) 0 (ok := fun _ => True) (okp := fun _ => True) rfl (fun _ hk => hk) trivial (by omega) (by omega) (Below.refl _ _) (Nat.le_refl _) ?_
        intro vz63 w90 ho91 hb hg_ hnew_
        clear hg_ hnew_
        (first | rw [← Nyz62.out] at ho91 | (simp only [Int.reduceToNat] at ho91; rw [← Nyz62.out] at ho91))
        have n0_ := am (Kd.R_below (pr HO_z15002) hb)
        have n1_ := am (Kd.R_below (pr HO_z15003) hb)
        have n2_ := am (Kd.R_below (pr HO_z28002) hb)
        have n3_ := am (Kd.R_below (pr HO_z28003) hb)
        have n4_ := am (Kd.R_elder' (pr HOz30) (Kd.R_base ho91) hb)
        have n5_ := am (Kd.R_elder' (pr HOz34) (Kd.R_base ho91) hb)
        have n6_ := am (Kd.R_elder' (pr HOz61) (Kd.R_base ho91) hb)
        have n7_ := am (Kd.R_lower (Kd.R_new' (Kd.R_new' (Kd.R_new' ho91 (Kd.R_lt (pr HOz30))) (Kd.R_lt (pr HOz34))) (Kd.R_lt (pr HOz61))) (below_size (by repeat (first | (with_reducible first | exact HB.out | apply below_alloc | apply pw_below_drewN | apply below_drew1 | refine below_set ?_ GEz14.out | refine below_set ?_ GEz27.out) | exact HB.out))))
        have n8_ := am (blk_below (pk BKz14) hb)
        have n9_ := am (blk_below (pk BKz27) hb)
        have n10_ := am (below_step (by repeat (first | (with_reducible first | exact HB.out | apply below_alloc | apply pw_below_drewN | apply below_drew1 | refine below_set ?_ GEz14.out | refine below_set ?_ GEz27.out) | exact HB.out)) hb)
        clear HO_z15002 HO_z15003 HO_z28002 HO_z28003 HOz30 HOz34 HOz61 BKz14 BKz27 HB; have HO_z15002 := n0_; have HO_z15003 := n1_; have HO_z28002 := n2_; have HO_z28003 := n3_; have HOz30 := n4_; have HOz34 := n5_; have HOz61 := n6_; have HOz64 := n7_; have BKz14 := n8_; have BKz27 := n9_; have HB := n10_; clear n0_ n1_ n2_ n3_ n4_ n5_ n6_ n7_ n8_ n9_ n10_; clear hb ho91
        refine hK.out _ _ (bc5 BKz14) (fun hHeld => ?_)
        clear hK K
        refine norm_ (by show Act.put _ (some 88) _ = _; simp only [Act.put, sa_, s0_, s1_, i64_w, i32_w]; rfl) ?_
        exact norm_ (by simp only [putAll, Act.put, sa_, s0_, s1_] <;> rfl) (hJ2_5 (vz60, vz63) _ ⟨hHeld, (pm HOz30 (fun _ hk => ⟨hk.1.1, ⟨hk.1.2, hk.2⟩⟩)), (pm HOz34 (fun _ hk => ⟨hk.1.1, ⟨hk.1.2, hk.2⟩⟩)), (pm HOz61 (fun _ hk => ⟨hk.1.1, ⟨hk.1.2, hk.2⟩⟩)), (pm HOz64 (fun _ hk => ⟨hk.1.1.2, ⟨hk.1.2, hk.2⟩⟩)), (pr HO_z15002), (pr HO_z15003), (pr HO_z28002), (pr HO_z28003), (pk BKz14), (pk BKz27), (by repeat (first | (with_reducible first | exact HB.out | apply below_alloc | apply pw_below_drewN | apply below_drew1 | refine below_set ?_ GEz14.out | refine below_set ?_ GEz27.out) | exact HB.out))⟩)
      ·skip
       rintro vz63 w90 ⟨hS_, h0_, h1_, h2_, h3_, h4_, h5_, h6_, h7_, h8_, h9_⟩
       have n0_ : Aside0 (Kd.R (Kd.int .u8) 5 w90 w.heap.size (fun k_ => some k_ ≠ (vz33 : Value).ownBlock ∧ some k_ ≠ (vz63 : Value).ownBlock) vz29 yz28) := ⟨h0_⟩
       have n1_ : Aside0 (Kd.R (Kd.int .u8) 5 w90 w.heap.size (fun k_ => some k_ ≠ (vz29 : Value).ownBlock ∧ some k_ ≠ (vz63 : Value).ownBlock) vz33 yz32) := ⟨h1_⟩
       have n2_ : Aside0 (Kd.R (Kd.int .u8) 5 w90 w.heap.size (fun k_ => some k_ ≠ (vz29 : Value).ownBlock ∧ some k_ ≠ (vz33 : Value).ownBlock) vz63 yz62) := ⟨h2_⟩
       have n3_ : Aside0 (Kd.R k72 72 w90 w.heap.size (fun k_ => some k_ ≠ (uz28002 : Value).ownBlock) (.slice Ao84 xz15002_2.length co84) xz15002_2) := ⟨h3_⟩
       have n4_ : Aside0 (Kd.R k74 74 w90 w.heap.size (fun k_ => some k_ ≠ (uz28003 : Value).ownBlock) (.slice Ao85 xz15003_2.length co85) xz15003_2) := ⟨h4_⟩
       have n5_ : Aside0 (Kd.R k72 72 w90 w.heap.size (fun k_ => some k_ ≠ (.slice Ao84 xz15002_2.length co84 : Value).ownBlock) uz28002 xz28002_2) := ⟨h5_⟩
       have n6_ : Aside0 (Kd.R k74 74 w90 w.heap.size (fun k_ => some k_ ≠ (.slice Ao85 xz15003_2.length co85 : Value).ownBlock) uz28003 xz28003_2) := ⟨h6_⟩
       have n7_ : Aside0 (w90.heap[gbz14]? = some (.cells #[.string xz15000_2, .int .i64 xz15001_2, .slice Ao84 xz15002_2.length co84, .slice Ao85 xz15003_2.length co85, .bool xz15004_2] 50 (0, 0))) := ⟨h7_⟩
       have n8_ : Aside0 (w90.heap[gbz27]? = some (.cells #[.string xz28000_2, .int .i64 xz28001_2, uz28002, uz28003, .bool xz28004_2] 50 (0, 0))) := ⟨h8_⟩
       have n9_ : Aside0 (Below w.heap.size w w90) := ⟨h9_⟩
       clear HO_z15002 HO_z15003 HO_z28002 HO_z28003 HOz30 HOz34 BKz14 BKz27 HB h0_ h1_ h2_ h3_ h4_ h5_ h6_ h7_ h8_ h9_; have HOz30 := n0_; have HOz34 := n1_; have HOz64 := n2_; have HO_z15002 := n3_; have HO_z15003 := n4_; have HO_z28002 := n5_; have HO_z28003 := n6_; have BKz14 := n7_; have BKz27 := n8_; have HB := n9_; clear n0_ n1_ n2_ n3_ n4_ n5_ n6_ n7_ n8_ n9_
       have hHeld : w90.cell? ⟨gbz14, 0, none⟩ = some (.string xz15000_2) ∧ w90.cell? ⟨gbz14, 1, none⟩ = some (.int .i64 xz15001_2) ∧ w90.cell? ⟨gbz14, 2, none⟩ = some (.slice Ao84 xz15002_2.length co84) ∧ w90.cell? ⟨gbz14, 3, none⟩ = some (.slice Ao85 xz15003_2.length co85) ∧ w90.cell? ⟨gbz14, 4, none⟩ = some (.bool xz15004_2) := hS_
       refine norm_ (by simp only [putAll, Act.put, List.setIfInBounds_toArray, List.set_cons_zero, List.set_cons_succ]; rfl) ?_
       refine on_ 2 (some 85) HT_ rfl rfl (by kernel_rfl) (by decide) (fun K hK => ?_)
       refine Kd.R_make_step (Kd.int .u8) _ 5 (by rfl) (N := 85) rfl 57 _ _ rfl 15 rfl rfl Try.underlying57 (.int .u8 0) 1 info5 rfl (by decide) (by omega) 0 (ok := fun _ => True) (okp := fun _ => True) rfl (fun _ hk => hk) trivial (by omega) (by omega) (Below.refl _ _) (Nat.le_refl _) ?_
       intro vz60 w91 ho92 hb hg_ hnew_
       clear hg_ hnew_
       (first | rw [← Nyz59.out] at ho92 | (simp only [Int.reduceToNat] at ho92; rw [← Nyz59.out] at ho92))
       have n0_ := am (Kd.R_below (pr HO_z15002) hb)
       have n1_ := am (Kd.R_below (pr HO_z15003) hb)
       have n2_ := am (Kd.R_below (pr HO_z28002) hb)
       have n3_ := am (Kd.R_below (pr HO_z28003) hb)
       have n4_ := am (Kd.R_elder' (pr HOz30) (Kd.R_base ho92) hb)
       have n5_ := am (Kd.R_elder' (pr HOz34) (Kd.R_base ho92) hb)
       have n6_ := am (Kd.R_elder' (pr HOz64) (Kd.R_base ho92) hb)
       have n7_ := am (Kd.R_lower (Kd.R_new' (Kd.R_new' (Kd.R_new' ho92 (Kd.R_lt (pr HOz30))) (Kd.R_lt (pr HOz34))) (Kd.R_lt (pr HOz64))) (below_size (by repeat (first | (with_reducible first | exact HB.out | apply below_alloc | apply pw_below_drewN | apply below_drew1 | refine below_set ?_ GEz14.out | refine below_set ?_ GEz27.out) | exact HB.out))))
       have n8_ := am (blk_below (pk BKz14) hb)
       have n9_ := am (blk_below (pk BKz27) hb)
       have n10_ := am (below_step (by repeat (first | (with_reducible first | exact HB.out | apply below_alloc | apply pw_below_drewN | apply below_drew1 | refine below_set ?_ GEz14.out | refine below_set ?_ GEz27.out) | exact HB.out)) hb)
       clear HO_z15002 HO_z15003 HO_z28002 HO_z28003 HOz30 HOz34 HOz64 BKz14 BKz27 HB; have HO_z15002 := n0_; have HO_z15003 := n1_; have HO_z28002 := n2_; have HO_z28003 := n3_; have HOz30 := n4_; have HOz34 := n5_; have HOz64 := n6_; have HOz61 := n7_; have BKz14 := n8_; have BKz27 := n9_; have HB := n10_; clear n0_ n1_ n2_ n3_ n4_ n5_ n6_ n7_ n8_ n9_ n10_; clear hb ho92
       refine hK.out _ _ (bc5 BKz14) (fun hHeld => ?_)
       clear hK K
       refine norm_ (by show Act.put _ (some 85) _ = _; simp only [Act.put, sa_, s0_, s1_, i64_w, i32_w]; rfl) ?_
       exact norm_ (by simp only [putAll, Act.put, sa_, s0_, s1_] <;> rfl) (hJ2_5_6 (vz60, vz63) _ ⟨hHeld, (pm HOz30 (fun _ hk => ⟨hk.1.1, ⟨hk.2, hk.1.2⟩⟩)), (pm HOz34 (fun _ hk => ⟨hk.1.1, ⟨hk.2, hk.1.2⟩⟩)), (pm HOz61 (fun _ hk => ⟨hk.1.1.2, ⟨hk.1.2, hk.2⟩⟩)), (pm HOz64 (fun _ hk => ⟨hk.1.1, ⟨hk.1.2, hk.2⟩⟩)), (pr HO_z15002), (pr HO_z15003), (pr HO_z28002), (pr HO_z28003), (pk BKz14), (pk BKz27), (by repeat (first | (with_reducible first | exact HB.out | apply below_alloc | apply pw_below_drewN | apply below_drew1 | refine below_set ?_ GEz14.out | refine below_set ?_ GEz27.out) | exact HB.out))⟩)
     ·skip
      rintro ⟨vz60, vz63⟩ w91 ⟨hS_, h0_, h1_, h2_, h3_, h4_, h5_, h6_, h7_, h8_, h9_, h10_⟩
      have n0_ : Aside0 (Kd.R (Kd.int .u8) 5 w91 w.heap.size (fun k_ => some k_ ≠ (vz33 : Value).ownBlock ∧ some k_ ≠ (vz60 : Value).ownBlock ∧ some k_ ≠ (vz63 : Value).ownBlock) vz29 yz28) := ⟨h0_⟩
      have n1_ : Aside0 (Kd.R (Kd.int .u8) 5 w91 w.heap.size (fun k_ => some k_ ≠ (vz29 : Value).ownBlock ∧ some k_ ≠ (vz60 : Value).ownBlock ∧ some k_ ≠ (vz63 : Value).ownBlock) vz33 yz32) := ⟨h1_⟩
      have n2_ : Aside0 (Kd.R (Kd.int .u8) 5 w91 w.heap.size (fun k_ => some k_ ≠ (vz29 : Value).ownBlock ∧ some k_ ≠ (vz33 : Value).ownBlock ∧ some k_ ≠ (vz63 : Value).ownBlock) vz60 yz59) := ⟨h2_⟩
      have n3_ : Aside0 (Kd.R (Kd.int .u8) 5 w91 w.heap.size (fun k_ => some k_ ≠ (vz29 : Value).ownBlock ∧ some k_ ≠ (vz33 : Value).ownBlock ∧ some k_ ≠ (vz60 : Value).ownBlock) vz63 yz62) := ⟨h3_⟩
      have n4_ : Aside0 (Kd.R k72 72 w91 w.heap.size (fun k_ => some k_ ≠ (uz28002 : Value).ownBlock) (.slice Ao84 xz15002_2.length co84) xz15002_2) := ⟨h4_⟩
      have n5_ : Aside0 (Kd.R k74 74 w91 w.heap.size (fun k_ => some k_ ≠ (uz28003 : Value).ownBlock) (.slice Ao85 xz15003_2.length co85) xz15003_2) := ⟨h5_⟩
      have n6_ : Aside0 (Kd.R k72 72 w91 w.heap.size (fun k_ => some k_ ≠ (.slice Ao84 xz15002_2.length co84 : Value).ownBlock) uz28002 xz28002_2) := ⟨h6_⟩
      have n7_ : Aside0 (Kd.R k74 74 w91 w.heap.size (fun k_ => some k_ ≠ (.slice Ao85 xz15003_2.length co85 : Value).ownBlock) uz28003 xz28003_2) := ⟨h7_⟩
      have n8_ : Aside0 (w91.heap[gbz14]? = some (.cells #[.string xz15000_2, .int .i64 xz15001_2, .slice Ao84 xz15002_2.length co84, .slice Ao85 xz15003_2.length co85, .bool xz15004_2] 50 (0, 0))) := ⟨h8_⟩
      have n9_ : Aside0 (w91.heap[gbz27]? = some (.cells #[.string xz28000_2, .int .i64 xz28001_2, uz28002, uz28003, .bool xz28004_2] 50 (0, 0))) := ⟨h9_⟩
      have n10_ : Aside0 (Below w.heap.size w w91) := ⟨h10_⟩
      clear HO_z15002 HO_z15003 HO_z28002 HO_z28003 HOz30 HOz34 BKz14 BKz27 HB h0_ h1_ h2_ h3_ h4_ h5_ h6_ h7_ h8_ h9_ h10_; have HOz30 := n0_; have HOz34 := n1_; have HOz61 := n2_; have HOz64 := n3_; have HO_z15002 := n4_; have HO_z15003 := n5_; have HO_z28002 := n6_; have HO_z28003 := n7_; have BKz14 := n8_; have BKz27 := n9_; have HB := n10_; clear n0_ n1_ n2_ n3_ n4_ n5_ n6_ n7_ n8_ n9_ n10_
      have hHeld : w91.cell? ⟨gbz14, 0, none⟩ = some (.string xz15000_2) ∧ w91.cell? ⟨gbz14, 1, none⟩ = some (.int .i64 xz15001_2) ∧ w91.cell? ⟨gbz14, 2, none⟩ = some (.slice Ao84 xz15002_2.length co84) ∧ w91.cell? ⟨gbz14, 3, none⟩ = some (.slice Ao85 xz15003_2.length co85) ∧ w91.cell? ⟨gbz14, 4, none⟩ = some (.bool xz15004_2) := hS_
      refine norm_ (by simp only [putAll, Act.put, List.setIfInBounds_toArray, List.set_cons_zero, List.set_cons_succ]; rfl) ?_
      refine two_ (i := 3) (j := 6) (Ni := some 86) (Nj := some 89) #[true, true, true, true, false, true, false, false, false, false, false, false, false, false, false] #[true, true, true, false, false, true, true, false, false, false, false, false, false, false, false] rfl rfl rfl rfl (two_of HT_.out (by kernel_rfl)) (by decide) (by decide) (fun K hK => ?_) (fun K hK => ?_)
      rotate_left
      ·skip
       have hcv92 := own_string (P := Try.prog) Try.underlying57 Try.underlying5 Try.underlying9 (Kd.own_of_R HOz64.out)
       refine value_ (w1 := ?_) (v := ?_) (by rfl) rfl ?_ ?_
       rotate_left 2
       ·go_simp
        constructor
        rotate_left
        ·rfl
        rfl
       clear hcv92
       refine hK.out _ _ (bc5 BKz14) (fun hHeld => ?_)
       clear hK K
       refine norm_ (by show Act.put _ (some 89) _ = _; simp only [Act.put, sa_, s0_, s1_, i64_w, i32_w]; rfl) ?_
       exact norm_ (by simp only [putAll, Act.put, sa_, s0_, s1_] <;> rfl) (hJ2_5_6 (vz60, vz63) _ ⟨hHeld, (pr HOz30), (pr HOz34), (pr HOz61), (pr HOz64), (pr HO_z15002), (pr HO_z15003), (pr HO_z28002), (pr HO_z28003), (pk BKz14), (pk BKz27), (by repeat (first | (with_reducible first | exact HB.out | apply below_alloc | apply pw_below_drewN | apply below_drew1 | refine below_set ?_ GEz14.out | refine below_set ?_ GEz27.out) | exact HB.out))⟩)
      skip
      have hcv92 := own_string (P := Try.prog) Try.underlying57 Try.underlying5 Try.underlying9 (Kd.own_of_R HOz61.out)
      refine value_ (w1 := ?_) (v := ?_) (by rfl) rfl ?_ ?_
      rotate_left 2
      ·go_simp
       constructor
       rotate_left
       ·rfl
       rfl
      clear hcv92
      refine hK.out _ _ (bc5 BKz14) (fun hHeld => ?_)
      clear hK K
      refine norm_ (by show Act.put _ (some 86) _ = _; simp only [Act.put, sa_, s0_, s1_, i64_w, i32_w]; rfl) ?_
      refine pu_ 4 (some 87) HT_ rfl rfl (by kernel_rfl) (fun _ _ _ h => h) (.inl ⟨by rfl, by intro w'; go_simp; with_reducible rfl⟩) (by simp only [Act.put, sa_, s0_, s1_, i64_w, i32_w]; rfl) ?_
      exact norm_ (by simp only [putAll, Act.put, sa_, s0_, s1_] <;> rfl) (hJ2_3_5 (vz60, vz63) _ ⟨hHeld, (pr HOz30), (pr HOz34), (pr HOz61), (pr HOz64), (pr HO_z15002), (pr HO_z15003), (pr HO_z28002), (pr HO_z28003), (pk BKz14), (pk BKz27), (by repeat (first | (with_reducible first | exact HB.out | apply below_alloc | apply pw_below_drewN | apply below_drew1 | refine below_set ?_ GEz14.out | refine below_set ?_ GEz27.out) | exact HB.out))⟩)
    ·skip
     rintro vz60 w90 ⟨hS_, h0_, h1_, h2_, h3_, h4_, h5_, h6_, h7_, h8_, h9_⟩
     have n0_ : Aside0 (Kd.R (Kd.int .u8) 5 w90 w.heap.size (fun k_ => some k_ ≠ (vz33 : Value).ownBlock ∧ some k_ ≠ (vz60 : Value).ownBlock) vz29 yz28) := ⟨h0_⟩
     have n1_ : Aside0 (Kd.R (Kd.int .u8) 5 w90 w.heap.size (fun k_ => some k_ ≠ (vz29 : Value).ownBlock ∧ some k_ ≠ (vz60 : Value).ownBlock) vz33 yz32) := ⟨h1_⟩
     have n2_ : Aside0 (Kd.R (Kd.int .u8) 5 w90 w.heap.size (fun k_ => some k_ ≠ (vz29 : Value).ownBlock ∧ some k_ ≠ (vz33 : Value).ownBlock) vz60 yz59) := ⟨h2_⟩
     have n3_ : Aside0 (Kd.R k72 72 w90 w.heap.size (fun k_ => some k_ ≠ (uz28002 : Value).ownBlock) (.slice Ao84 xz15002_2.length co84) xz15002_2) := ⟨h3_⟩
     have n4_ : Aside0 (Kd.R k74 74 w90 w.heap.size (fun k_ => some k_ ≠ (uz28003 : Value).ownBlock) (.slice Ao85 xz15003_2.length co85) xz15003_2) := ⟨h4_⟩
     have n5_ : Aside0 (Kd.R k72 72 w90 w.heap.size (fun k_ => some k_ ≠ (.slice Ao84 xz15002_2.length co84 : Value).ownBlock) uz28002 xz28002_2) := ⟨h5_⟩
     have n6_ : Aside0 (Kd.R k74 74 w90 w.heap.size (fun k_ => some k_ ≠ (.slice Ao85 xz15003_2.length co85 : Value).ownBlock) uz28003 xz28003_2) := ⟨h6_⟩
     have n7_ : Aside0 (w90.heap[gbz14]? = some (.cells #[.string xz15000_2, .int .i64 xz15001_2, .slice Ao84 xz15002_2.length co84, .slice Ao85 xz15003_2.length co85, .bool xz15004_2] 50 (0, 0))) := ⟨h7_⟩
     have n8_ : Aside0 (w90.heap[gbz27]? = some (.cells #[.string xz28000_2, .int .i64 xz28001_2, uz28002, uz28003, .bool xz28004_2] 50 (0, 0))) := ⟨h8_⟩
     have n9_ : Aside0 (Below w.heap.size w w90) := ⟨h9_⟩
     clear HO_z15002 HO_z15003 HO_z28002 HO_z28003 HOz30 HOz34 BKz14 BKz27 HB h0_ h1_ h2_ h3_ h4_ h5_ h6_ h7_ h8_ h9_; have HOz30 := n0_; have HOz34 := n1_; have HOz61 := n2_; have HO_z15002 := n3_; have HO_z15003 := n4_; have HO_z28002 := n5_; have HO_z28003 := n6_; have BKz14 := n7_; have BKz27 := n8_; have HB := n9_; clear n0_ n1_ n2_ n3_ n4_ n5_ n6_ n7_ n8_ n9_
     have hHeld : w90.cell? ⟨gbz14, 0, none⟩ = some (.string xz15000_2) ∧ w90.cell? ⟨gbz14, 1, none⟩ = some (.int .i64 xz15001_2) ∧ w90.cell? ⟨gbz14, 2, none⟩ = some (.slice Ao84 xz15002_2.length co84) ∧ w90.cell? ⟨gbz14, 3, none⟩ = some (.slice Ao85 xz15003_2.length co85) ∧ w90.cell? ⟨gbz14, 4, none⟩ = some (.bool xz15004_2) := hS_
     refine norm_ (by simp only [putAll, Act.put, List.setIfInBounds_toArray, List.set_cons_zero, List.set_cons_succ]; rfl) ?_
     refine on_ 5 (some 88) HT_ rfl rfl (by kernel_rfl) (by decide) (fun K hK => ?_)
     refine Kd.R_make_step (Kd.int .u8) _ 5 (by rfl) (N := 88) rfl 57 _ _ rfl 24 rfl rfl Try.underlying57 (.int .u8 0) 1 info5 rfl (by decide) (by omega) 0 (ok := fun _ => True) (okp := fun _ => True) rfl (fun _ hk => hk) trivial (by omega) (by omega) (Below.refl _ _) (Nat.le_refl _) ?_
     intro vz63 w91 ho92 hb hg_ hnew_
     clear hg_ hnew_
     (first | rw [← Nyz62.out] at ho92 | (simp only [Int.reduceToNat] at ho92; rw [← Nyz62.out] at ho92))
     have n0_ := am (Kd.R_below (pr HO_z15002) hb)
     have n1_ := am (Kd.R_below (pr HO_z15003) hb)
     have n2_ := am (Kd.R_below (pr HO_z28002) hb)
     have n3_ := am (Kd.R_below (pr HO_z28003) hb)
     have n4_ := am (Kd.R_elder' (pr HOz30) (Kd.R_base ho92) hb)
     have n5_ := am (Kd.R_elder' (pr HOz34) (Kd.R_base ho92) hb)
     have n6_ := am (Kd.R_elder' (pr HOz61) (Kd.R_base ho92) hb)
     have n7_ := am (Kd.R_lower (Kd.R_new' (Kd.R_new' (Kd.R_new' ho92 (Kd.R_lt (pr HOz30))) (Kd.R_lt (pr HOz34))) (Kd.R_lt (pr HOz61))) (below_size (by repeat (first | (with_reducible first | exact HB.out | apply below_alloc | apply pw_below_drewN | apply below_drew1 | refine below_set ?_ GEz14.out | refine below_set ?_ GEz27.out) | exact HB.out))))
     have n8_ := am (blk_below (pk BKz14) hb)
     have n9_ := am (blk_below (pk BKz27) hb)
     have n10_ := am (below_step (by repeat (first | (with_reducible first | exact HB.out | apply below_alloc | apply pw_below_drewN | apply below_drew1 | refine below_set ?_ GEz14.out | refine below_set ?_ GEz27.out) | exact HB.out)) hb)
     clear HO_z15002 HO_z15003 HO_z28002 HO_z28003 HOz30 HOz34 HOz61 BKz14 BKz27 HB; have HO_z15002 := n0_; have HO_z15003 := n1_; have HO_z28002 := n2_; have HO_z28003 := n3_; have HOz30 := n4_; have HOz34 := n5_; have HOz61 := n6_; have HOz64 := n7_; have BKz14 := n8_; have BKz27 := n9_; have HB := n10_; clear n0_ n1_ n2_ n3_ n4_ n5_ n6_ n7_ n8_ n9_ n10_; clear hb ho92
     refine hK.out _ _ (bc5 BKz14) (fun hHeld => ?_)
     clear hK K
     refine norm_ (by show Act.put _ (some 88) _ = _; simp only [Act.put, sa_, s0_, s1_, i64_w, i32_w]; rfl) ?_
     exact norm_ (by simp only [putAll, Act.put, sa_, s0_, s1_] <;> rfl) (hJ2_3_5 (vz60, vz63) _ ⟨hHeld, (pm HOz30 (fun _ hk => ⟨hk.1.1, ⟨hk.1.2, hk.2⟩⟩)), (pm HOz34 (fun _ hk => ⟨hk.1.1, ⟨hk.1.2, hk.2⟩⟩)), (pm HOz61 (fun _ hk => ⟨hk.1.1, ⟨hk.1.2, hk.2⟩⟩)), (pm HOz64 (fun _ hk => ⟨hk.1.1.2, ⟨hk.1.2, hk.2⟩⟩)), (pr HO_z15002), (pr HO_z15003), (pr HO_z28002), (pr HO_z28003), (pk BKz14), (pk BKz27), (by repeat (first | (with_reducible first | exact HB.out | apply below_alloc | apply pw_below_drewN | apply below_drew1 | refine below_set ?_ GEz14.out | refine below_set ?_ GEz27.out) | exact HB.out))⟩)
   ·skip
    rintro ⟨vz60, vz63⟩ w92 ⟨hS_, h0_, h1_, h2_, h3_, h4_, h5_, h6_, h7_, h8_, h9_, h10_⟩
    have n0_ : Aside0 (Kd.R (Kd.int .u8) 5 w92 w.heap.size (fun k_ => some k_ ≠ (vz33 : Value).ownBlock ∧ some k_ ≠ (vz60 : Value).ownBlock ∧ some k_ ≠ (vz63 : Value).ownBlock) vz29 yz28) := ⟨h0_⟩
    have n1_ : Aside0 (Kd.R (Kd.int .u8) 5 w92 w.heap.size (fun k_ => some k_ ≠ (vz29 : Value).ownBlock ∧ some k_ ≠ (vz60 : Value).ownBlock ∧ some k_ ≠ (vz63 : Value).ownBlock) vz33 yz32) := ⟨h1_⟩
    have n2_ : Aside0 (Kd.R (Kd.int .u8) 5 w92 w.heap.size (fun k_ => some k_ ≠ (vz29 : Value).ownBlock ∧ some k_ ≠ (vz33 : Value).ownBlock ∧ some k_ ≠ (vz63 : Value).ownBlock) vz60 yz59) := ⟨h2_⟩
    have n3_ : Aside0 (Kd.R (Kd.int .u8) 5 w92 w.heap.size (fun k_ => some k_ ≠ (vz29 : Value).ownBlock ∧ some k_ ≠ (vz33 : Value).ownBlock ∧ some k_ ≠ (vz60 : Value).ownBlock) vz63 yz62) := ⟨h3_⟩
    have n4_ : Aside0 (Kd.R k72 72 w92 w.heap.size (fun k_ => some k_ ≠ (uz28002 : Value).ownBlock) (.slice Ao84 xz15002_2.length co84) xz15002_2) := ⟨h4_⟩
    have n5_ : Aside0 (Kd.R k74 74 w92 w.heap.size (fun k_ => some k_ ≠ (uz28003 : Value).ownBlock) (.slice Ao85 xz15003_2.length co85) xz15003_2) := ⟨h5_⟩
    have n6_ : Aside0 (Kd.R k72 72 w92 w.heap.size (fun k_ => some k_ ≠ (.slice Ao84 xz15002_2.length co84 : Value).ownBlock) uz28002 xz28002_2) := ⟨h6_⟩
    have n7_ : Aside0 (Kd.R k74 74 w92 w.heap.size (fun k_ => some k_ ≠ (.slice Ao85 xz15003_2.length co85 : Value).ownBlock) uz28003 xz28003_2) := ⟨h7_⟩
    have n8_ : Aside0 (w92.heap[gbz14]? = some (.cells #[.string xz15000_2, .int .i64 xz15001_2, .slice Ao84 xz15002_2.length co84, .slice Ao85 xz15003_2.length co85, .bool xz15004_2] 50 (0, 0))) := ⟨h8_⟩
    have n9_ : Aside0 (w92.heap[gbz27]? = some (.cells #[.string xz28000_2, .int .i64 xz28001_2, uz28002, uz28003, .bool xz28004_2] 50 (0, 0))) := ⟨h9_⟩
    have n10_ : Aside0 (Below w.heap.size w w92) := ⟨h10_⟩
    clear HO_z15002 HO_z15003 HO_z28002 HO_z28003 HOz30 HOz34 BKz14 BKz27 HB h0_ h1_ h2_ h3_ h4_ h5_ h6_ h7_ h8_ h9_ h10_; have HOz30 := n0_; have HOz34 := n1_; have HOz61 := n2_; have HOz64 := n3_; have HO_z15002 := n4_; have HO_z15003 := n5_; have HO_z28002 := n6_; have HO_z28003 := n7_; have BKz14 := n8_; have BKz27 := n9_; have HB := n10_; clear n0_ n1_ n2_ n3_ n4_ n5_ n6_ n7_ n8_ n9_ n10_
    have hHeld : w92.cell? ⟨gbz14, 0, none⟩ = some (.string xz15000_2) ∧ w92.cell? ⟨gbz14, 1, none⟩ = some (.int .i64 xz15001_2) ∧ w92.cell? ⟨gbz14, 2, none⟩ = some (.slice Ao84 xz15002_2.length co84) ∧ w92.cell? ⟨gbz14, 3, none⟩ = some (.slice Ao85 xz15003_2.length co85) ∧ w92.cell? ⟨gbz14, 4, none⟩ = some (.bool xz15004_2) := hS_
    refine norm_ (by simp only [putAll, Act.put, List.setIfInBounds_toArray, List.set_cons_zero, List.set_cons_succ]; rfl) ?_
    refine on_ 3 (some 86) HT_ rfl rfl (by kernel_rfl) (by decide) (fun K hK => ?_)
    have hcv93 := own_string (P := Try.prog) Try.underlying57 Try.underlying5 Try.underlying9 (Kd.own_of_R HOz61.out)
    refine value_ (w1 := ?_) (v := ?_) (by rfl) rfl ?_ ?_
    rotate_left 2
    ·go_simp
     constructor
     rotate_left
     ·rfl
     rfl
    clear hcv93
    refine hK.out _ _ (bc5 BKz14) (fun hHeld => ?_)
    clear hK K
    refine norm_ (by show Act.put _ (some 86) _ = _; simp only [Act.put, sa_, s0_, s1_, i64_w, i32_w]; rfl) ?_
    refine pu_ 4 (some 87) HT_ rfl rfl (by kernel_rfl) (fun _ _ _ h => h) (.inl ⟨by rfl, by intro w'; go_simp; with_reducible rfl⟩) (by simp only [Act.put, sa_, s0_, s1_, i64_w, i32_w]; rfl) ?_
    exact norm_ (by simp only [putAll, Act.put, sa_, s0_, s1_] <;> rfl) (hJ2_3_5_6 (vz60, vz63) _ ⟨hHeld, (pr HOz30), (pr HOz34), (pr HOz61), (pr HOz64), (pr HO_z15002), (pr HO_z15003), (pr HO_z28002), (pr HO_z28003), (pk BKz14), (pk BKz27), (by repeat (first | (with_reducible first | exact HB.out | apply below_alloc | apply pw_below_drewN | apply below_drew1 | refine below_set ?_ GEz14.out | refine below_set ?_ GEz27.out) | exact HB.out))⟩)
  ·skip
   rintro ⟨vz60, vz63⟩ w92 ⟨hS_, h0_, h1_, h2_, h3_, h4_, h5_, h6_, h7_, h8_, h9_, h10_⟩
   have n0_ : Aside0 (Kd.R (Kd.int .u8) 5 w92 w.heap.size (fun k_ => some k_ ≠ (vz33 : Value).ownBlock ∧ some k_ ≠ (vz60 : Value).ownBlock ∧ some k_ ≠ (vz63 : Value).ownBlock) vz29 yz28) := ⟨h0_⟩
   have n1_ : Aside0 (Kd.R (Kd.int .u8) 5 w92 w.heap.size (fun k_ => some k_ ≠ (vz29 : Value).ownBlock ∧ some k_ ≠ (vz60 : Value).ownBlock ∧ some k_ ≠ (vz63 : Value).ownBlock) vz33 yz32) := ⟨h1_⟩
   have n2_ : Aside0 (Kd.R (Kd.int .u8) 5 w92 w.heap.size (fun k_ => some k_ ≠ (vz29 : Value).ownBlock ∧ some k_ ≠ (vz33 : Value).ownBlock ∧ some k_ ≠ (vz63 : Value).ownBlock) vz60 yz59) := ⟨h2_⟩
   have n3_ : Aside0 (Kd.R (Kd.int .u8) 5 w92 w.heap.size (fun k_ => some k_ ≠ (vz29 : Value).ownBlock ∧ some k_ ≠ (vz33 : Value).ownBlock ∧ some k_ ≠ (vz60 : Value).ownBlock) vz63 yz62) := ⟨h3_⟩
   have n4_ : Aside0 (Kd.R k72 72 w92 w.heap.size (fun k_ => some k_ ≠ (uz28002 : Value).ownBlock) (.slice Ao84 xz15002_2.length co84) xz15002_2) := ⟨h4_⟩
   have n5_ : Aside0 (Kd.R k74 74 w92 w.heap.size (fun k_ => some k_ ≠ (uz28003 : Value).ownBlock) (.slice Ao85 xz15003_2.length co85) xz15003_2) := ⟨h5_⟩
   have n6_ : Aside0 (Kd.R k72 72 w92 w.heap.size (fun k_ => some k_ ≠ (.slice Ao84 xz15002_2.length co84 : Value).ownBlock) uz28002 xz28002_2) := ⟨h6_⟩
   have n7_ : Aside0 (Kd.R k74 74 w92 w.heap.size (fun k_ => some k_ ≠ (.slice Ao85 xz15003_2.length co85 : Value).ownBlock) uz28003 xz28003_2) := ⟨h7_⟩
   have n8_ : Aside0 (w92.heap[gbz14]? = some (.cells #[.string xz15000_2, .int .i64 xz15001_2, .slice Ao84 xz15002_2.length co84, .slice Ao85 xz15003_2.length co85, .bool xz15004_2] 50 (0, 0))) := ⟨h8_⟩
   have n9_ : Aside0 (w92.heap[gbz27]? = some (.cells #[.string xz28000_2, .int .i64 xz28001_2, uz28002, uz28003, .bool xz28004_2] 50 (0, 0))) := ⟨h9_⟩
   have n10_ : Aside0 (Below w.heap.size w w92) := ⟨h10_⟩
   clear HO_z15002 HO_z15003 HO_z28002 HO_z28003 HOz30 HOz34 BKz14 BKz27 HB h0_ h1_ h2_ h3_ h4_ h5_ h6_ h7_ h8_ h9_ h10_; have HOz30 := n0_; have HOz34 := n1_; have HOz61 := n2_; have HOz64 := n3_; have HO_z15002 := n4_; have HO_z15003 := n5_; have HO_z28002 := n6_; have HO_z28003 := n7_; have BKz14 := n8_; have BKz27 := n9_; have HB := n10_; clear n0_ n1_ n2_ n3_ n4_ n5_ n6_ n7_ n8_ n9_ n10_
   have hHeld : w92.cell? ⟨gbz14, 0, none⟩ = some (.string xz15000_2) ∧ w92.cell? ⟨gbz14, 1, none⟩ = some (.int .i64 xz15001_2) ∧ w92.cell? ⟨gbz14, 2, none⟩ = some (.slice Ao84 xz15002_2.length co84) ∧ w92.cell? ⟨gbz14, 3, none⟩ = some (.slice Ao85 xz15003_2.length co85) ∧ w92.cell? ⟨gbz14, 4, none⟩ = some (.bool xz15004_2) := hS_
   refine norm_ (by simp only [putAll, Act.put, List.setIfInBounds_toArray, List.set_cons_zero, List.set_cons_succ]; rfl) ?_
   refine on_ 6 (some 89) HT_ rfl rfl (by kernel_rfl) (by decide) (fun K hK => ?_)
   have hcv93 := own_string (P := Try.prog) Try.underlying57 Try.underlying5 Try.underlying9 (Kd.own_of_R HOz64.out)
   refine value_ (w1 := ?_) (v := ?_) (by rfl) rfl ?_ ?_
   rotate_left 2
   ·go_simp
    constructor
    rotate_left
    ·rfl
    rfl
   clear hcv93
   refine hK.out _ _ (bc5 BKz14) (fun hHeld => ?_)
   clear hK K
   refine norm_ (by show Act.put _ (some 89) _ = _; simp only [Act.put, sa_, s0_, s1_, i64_w, i32_w]; rfl) ?_
   exact norm_ (by simp only [putAll, Act.put, sa_, s0_, s1_] <;> rfl) (hJ2_3_5_6 (vz60, vz63) _ ⟨hHeld, (pr HOz30), (pr HOz34), (pr HOz61), (pr HOz64), (pr HO_z15002), (pr HO_z15003), (pr HO_z28002), (pr HO_z28003), (pk BKz14), (pk BKz27), (by repeat (first | (with_reducible first | exact HB.out | apply below_alloc | apply pw_below_drewN | apply below_drew1 | refine below_set ?_ GEz14.out | refine below_set ?_ GEz27.out) | exact HB.out))⟩)
 rintro ⟨vz60, vz63⟩ w93 ⟨hS_, h0_, h1_, h2_, h3_, h4_, h5_, h6_, h7_, h8_, h9_, h10_⟩
 have n0_ : Aside0 (Kd.R (Kd.int .u8) 5 w93 w.heap.size (fun k_ => some k_ ≠ (vz33 : Value).ownBlock ∧ some k_ ≠ (vz60 : Value).ownBlock ∧ some k_ ≠ (vz63 : Value).ownBlock) vz29 yz28) := ⟨h0_⟩
 have n1_ : Aside0 (Kd.R (Kd.int .u8) 5 w93 w.heap.size (fun k_ => some k_ ≠ (vz29 : Value).ownBlock ∧ some k_ ≠ (vz60 : Value).ownBlock ∧ some k_ ≠ (vz63 : Value).ownBlock) vz33 yz32) := ⟨h1_⟩
 have n2_ : Aside0 (Kd.R (Kd.int .u8) 5 w93 w.heap.size (fun k_ => some k_ ≠ (vz29 : Value).ownBlock ∧ some k_ ≠ (vz33 : Value).ownBlock ∧ some k_ ≠ (vz63 : Value).ownBlock) vz60 yz59) := ⟨h2_⟩
 have n3_ : Aside0 (Kd.R (Kd.int .u8) 5 w93 w.heap.size (fun k_ => some k_ ≠ (vz29 : Value).ownBlock ∧ some k_ ≠ (vz33 : Value).ownBlock ∧ some k_ ≠ (vz60 : Value).ownBlock) vz63 yz62) := ⟨h3_⟩
 have n4_ : Aside0 (Kd.R k72 72 w93 w.heap.size (fun k_ => some k_ ≠ (uz28002 : Value).ownBlock) (.slice Ao84 xz15002_2.length co84) xz15002_2) := ⟨h4_⟩
 have n5_ : Aside0 (Kd.R k74 74 w93 w.heap.size (fun k_ => some k_ ≠ (uz28003 : Value).ownBlock) (.slice Ao85 xz15003_2.length co85) xz15003_2) := ⟨h5_⟩
 have n6_ : Aside0 (Kd.R k72 72 w93 w.heap.size (fun k_ => some k_ ≠ (.slice Ao84 xz15002_2.length co84 : Value).ownBlock) uz28002 xz28002_2) := ⟨h6_⟩
 have n7_ : Aside0 (Kd.R k74 74 w93 w.heap.size (fun k_ => some k_ ≠ (.slice Ao85 xz15003_2.length co85 : Value).ownBlock) uz28003 xz28003_2) := ⟨h7_⟩
 have n8_ : Aside0 (w93.heap[gbz14]? = some (.cells #[.string xz15000_2, .int .i64 xz15001_2, .slice Ao84 xz15002_2.length co84, .slice Ao85 xz15003_2.length co85, .bool xz15004_2] 50 (0, 0))) := ⟨h8_⟩
 have n9_ : Aside0 (w93.heap[gbz27]? = some (.cells #[.string xz28000_2, .int .i64 xz28001_2, uz28002, uz28003, .bool xz28004_2] 50 (0, 0))) := ⟨h9_⟩
 have n10_ : Aside0 (Below w.heap.size w w93) := ⟨h10_⟩
 clear HO_z15002 HO_z15003 HO_z28002 HO_z28003 HOz30 HOz34 BKz14 BKz27 HB h0_ h1_ h2_ h3_ h4_ h5_ h6_ h7_ h8_ h9_ h10_; have HOz30 := n0_; have HOz34 := n1_; have HOz61 := n2_; have HOz64 := n3_; have HO_z15002 := n4_; have HO_z15003 := n5_; have HO_z28002 := n6_; have HO_z28003 := n7_; have BKz14 := n8_; have BKz27 := n9_; have HB := n10_; clear n0_ n1_ n2_ n3_ n4_ n5_ n6_ n7_ n8_ n9_ n10_
 have hHeld : w93.cell? ⟨gbz14, 0, none⟩ = some (.string xz15000_2) ∧ w93.cell? ⟨gbz14, 1, none⟩ = some (.int .i64 xz15001_2) ∧ w93.cell? ⟨gbz14, 2, none⟩ = some (.slice Ao84 xz15002_2.length co84) ∧ w93.cell? ⟨gbz14, 3, none⟩ = some (.slice Ao85 xz15003_2.length co85) ∧ w93.cell? ⟨gbz14, 4, none⟩ = some (.bool xz15004_2) := hS_
 refine norm_ (by simp only [putAll, Act.put, List.setIfInBounds_toArray, List.set_cons_zero, List.set_cons_succ]; rfl) ?_
 refine on_ 7 (some 90) HT_ rfl rfl (by kernel_rfl) (by decide) (fun K hK => ?_)
 refine goes_ Try.func41 (by kernel_rfl) rfl #[.agg #[.string xz15000_2, .int .i64 xz15001_2, .slice Ao84 xz15002_2.length co84, .slice Ao85 xz15003_2.length co85, .bool xz15004_2], .string sx65, .string (strOfNums yz62)] (by rfl) rfl rfl (by (try simp only [List.map_toArray, List.map_cons, List.map_nil]); first | done | rfl | (simp only [List.length_drop, List.length_take]; rfl)) ?_
 with_reducible refine (ideal_Seal.calls kj26 xz15000_2 xz15001_2 _ _ xz15002_2 _ _ xz15003_2 xz15004_2 sx65 (strOfNums yz62) tz65 tz66 tz67 tz68 tz71 tz74 tz75 _ ?side1 ?side2 ?side3 ?side4 A67.out).mono ?_
 (case side1 => repeat (first | exact (Kd.R_reads' HO_z15002.out).2.2 | (with_reducible refine Kd.C_alloc ?_ _) | (with_reducible refine Kd.C_drewN ?_ _) | (with_reducible refine Kd.C_drew ?_)))
 (case side2 => exact (Kd.R_reads' HO_z15002.out).2.1)
 (case side3 => repeat (first | exact (Kd.R_reads' HO_z15003.out).2.2 | (with_reducible refine Kd.C_alloc ?_ _) | (with_reducible refine Kd.C_drewN ?_ _) | (with_reducible refine Kd.C_drew ?_)))
 (case side4 => exact (Kd.R_reads' HO_z15003.out).2.1)
 rintro e w94 ⟨vz69, vz72, rfl, ho0, ho1, hb⟩
 refine ⟨_, rfl, ?_⟩
 have n0_ := am (Kd.R_elder' (pr HO_z15002) (Kd.R_base ho0) hb)
 have n1_ := am (Kd.R_elder' (pr HO_z15003) (Kd.R_base ho1) hb)
 have n2_ := am (Kd.R_elder' (pr HO_z28002) (Kd.R_base ho0) hb)
 have n3_ := am (Kd.R_elder' (pr HO_z28003) (Kd.R_base ho1) hb)
 have n4_ := am (Kd.R_below (pr HOz30) hb)
 have n5_ := am (Kd.R_below (pr HOz34) hb)
 have n6_ := am (Kd.R_below (pr HOz61) hb)
 have n7_ := am (Kd.R_below (pr HOz64) hb)
 have n8_ := am (Kd.R_lower (Kd.R_new' (Kd.R_new' ho0 (Kd.R_lt (pr HO_z15002))) (Kd.R_lt (pr HO_z28002))) (below_size (by repeat (first | (with_reducible first | exact HB.out | apply below_alloc | apply pw_below_drewN | apply below_drew1 | refine below_set ?_ GEz14.out | refine below_set ?_ GEz27.out) | exact HB.out))))
 have n9_ := am (Kd.R_lower (Kd.R_new' (Kd.R_new' ho1 (Kd.R_lt (pr HO_z15003))) (Kd.R_lt (pr HO_z28003))) (below_size (by repeat (first | (with_reducible first | exact HB.out | apply below_alloc | apply pw_below_drewN | apply below_drew1 | refine below_set ?_ GEz14.out | refine below_set ?_ GEz27.out) | exact HB.out))))
 have n10_ := am (blk_below (pk BKz14) hb)
 have n11_ := am (blk_below (pk BKz27) hb)
 have n12_ := am (below_step (by repeat (first | (with_reducible first | exact HB.out | apply below_alloc | apply pw_below_drewN | apply below_drew1 | refine below_set ?_ GEz14.out | refine below_set ?_ GEz27.out) | exact HB.out)) hb)
 clear HO_z15002 HO_z15003 HO_z28002 HO_z28003 HOz30 HOz34 HOz61 HOz64 BKz14 BKz27 HB; have HO_z15002 := n0_; have HO_z15003 := n1_; have HO_z28002 := n2_; have HO_z28003 := n3_; have HOz30 := n4_; have HOz34 := n5_; have HOz61 := n6_; have HOz64 := n7_; have HOz70 := n8_; have HOz73 := n9_; have BKz14 := n10_; have BKz27 := n11_; have HB := n12_; clear n0_ n1_ n2_ n3_ n4_ n5_ n6_ n7_ n8_ n9_ n10_ n11_ n12_; (try clear hb); (try clear hb2); (try clear hk); (try clear hi); (try clear ho0); (try clear ho1)
 obtain ⟨Ao97, co97, eo97⟩ := Kd.R_slice HOz70.out
 (first | subst eo97 | (injection eo97 with f1_ f2_ f3_; have f4_ := f1_.symm; have f5_ := f3_.symm; clear f1_ f2_ f3_; subst f4_; subst f5_))
 obtain ⟨Ao99, co99, eo99⟩ := Kd.R_slice HOz73.out
 (first | subst eo99 | (injection eo99 with f1_ f2_ f3_; have f4_ := f1_.symm; have f5_ := f3_.symm; clear f1_ f2_ f3_; subst f4_; subst f5_))
 refine hK.out _ _ (bc5 BKz14) (fun hHeld => ?_)
 clear hK K
 refine norm_ (by show Act.put _ (some 90) _ = _; simp only [Act.put, sa_, s0_, s1_, i64_w, i32_w]; rfl) ?_
 refine pu_ 8 (some 82) HT_ rfl rfl (by kernel_rfl) (fun _ _ _ h => h) (.inl ⟨by rfl, by intro w'; go_simp; with_reducible rfl⟩) (by simp only [Act.put, sa_, s0_, s1_, i64_w, i32_w]; rfl) ?_
 refine pu_ 9 (some 91) HT_ rfl rfl (by kernel_rfl) (fun _ _ _ h => h) (.inl ⟨by rfl, by intro w'; go_simp; with_reducible rfl⟩) (by simp only [Act.put, sa_, s0_, s1_, i64_w, i32_w]; rfl) ?_
 refine pu_ 10 (some 92) HT_ rfl rfl (by kernel_rfl) (fun _ _ _ h => h) (.inl ⟨by rfl, by intro w'; go_simp; with_reducible rfl⟩) (by simp only [Act.put, sa_, s0_, s1_, i64_w, i32_w]; rfl) ?_
 refine pu_ 11 (some 93) HT_ rfl rfl (by kernel_rfl) (fun _ _ _ h => h) (.inl ⟨by rfl, by intro w'; go_simp; with_reducible rfl⟩) (by simp only [Act.put, sa_, s0_, s1_, i64_w, i32_w]; rfl) ?_
 refine pu_ 12 (some 17) HT_ rfl rfl (by kernel_rfl) (fun _ _ _ h => h) (.inl ⟨by rfl, by intro w'; go_simp; with_reducible rfl⟩) (by simp only [Act.put, sa_, s0_, s1_, i64_w, i32_w]; rfl) ?_
 refine la_ 13 none HT_ rfl rfl (by kernel_rfl) (by decide) (fun K hK => ?_)
 have hs95 : w94.cell? ⟨gbz14, 0, none⟩ = some (.string xz15000_2) := (blk_cell BKz14.out 0).trans rfl
 have hfs95 := blk_frozen BKz14.out 0
 have hns95_1 := NBz27_z14.out
 have hms95_1 := NBz14_z27.out
 have hs96 : w94.cell? ⟨gbz14, 1, none⟩ = some (.int .i64 xz15001_2) := (blk_cell BKz14.out 1).trans rfl
 have hfs96 := blk_frozen BKz14.out 1
 have hns96_1 := NBz27_z14.out
 have hms96_1 := NBz14_z27.out
 have hs98 : w94.cell? ⟨gbz14, 2, none⟩ = some (.slice Ao84 xz15002_2.length co84) := (blk_cell BKz14.out 2).trans rfl
 have hfs98 := blk_frozen BKz14.out 2
 have hns98_1 := NBz27_z14.out
 have hms98_1 := NBz14_z27.out
 have hs100 : w94.cell? ⟨gbz14, 3, none⟩ = some (.slice Ao85 xz15003_2.length co85) := (blk_cell BKz14.out 3).trans rfl
 have hfs100 := blk_frozen BKz14.out 3
 have hns100_1 := NBz27_z14.out
 have hms100_1 := NBz14_z27.out
 have hs101 : w94.cell? ⟨gbz14, 4, none⟩ = some (.bool xz15004_2) := (blk_cell BKz14.out 4).trans rfl
 have hfs101 := blk_frozen BKz14.out 4
 have hns101_1 := NBz27_z14.out
 have hms101_1 := NBz14_z27.out
 refine skip_ (by rfl) rfl (by go_simp; rfl) ?_
 refine hK.out _ _ ?_
 clear hK K
 refine pu_ 14 (some 11) HT_ rfl rfl (by kernel_rfl) (fun _ _ _ h => h) (.inl ⟨by rfl, by intro w'; go_simp; with_reducible rfl⟩) (by simp only [Act.put, sa_, s0_, s1_, i64_w, i32_w]; rfl) ?_
 refine done_ (done_of HT_.out (by kernel_rfl)) ?_
 obtain ⟨Ao102, co102, eo102⟩ := Kd.R_slice HO_z28002.out
 subst eo102
 obtain ⟨Ao103, co103, eo103⟩ := Kd.R_slice HO_z28003.out
 subst eo103
 try go_wp2
 have n0_ : Aside0 (Kd.R k72 72 (((((w94.setCell ⟨gbz14, 0, none⟩ (.string tz66)).setCell ⟨gbz14, 1, none⟩ (.int .i64 tz67)).setCell ⟨gbz14, 2, none⟩ (.slice Ao97 tz68.length co97)).setCell ⟨gbz14, 3, none⟩ (.slice Ao99 tz71.length co99)).setCell ⟨gbz14, 4, none⟩ (.bool tz74)) w.heap.size (fun k_ => some k_ ≠ (.slice Ao102 xz28002_2.length co102 : Value).ownBlock ∧ some k_ ≠ (.slice Ao97 tz68.length co97 : Value).ownBlock) (.slice Ao84 xz15002_2.length co84) xz15002_2) := ⟨by (with_reducible repeat (first | apply Kd.R_alloc | apply Kd.R_drewN | apply Kd.R_drew)); exact Kd.R_mono (rf5 (Kd.R_types HO_z15002.out BKz14.out (by decide)) (fun _ hk => hk.2)) (fun _ hk => ⟨hk.1.1, hk.1.2⟩)⟩
 have n1_ : Aside0 (Kd.R k74 74 (((((w94.setCell ⟨gbz14, 0, none⟩ (.string tz66)).setCell ⟨gbz14, 1, none⟩ (.int .i64 tz67)).setCell ⟨gbz14, 2, none⟩ (.slice Ao97 tz68.length co97)).setCell ⟨gbz14, 3, none⟩ (.slice Ao99 tz71.length co99)).setCell ⟨gbz14, 4, none⟩ (.bool tz74)) w.heap.size (fun k_ => some k_ ≠ (.slice Ao103 xz28003_2.length co103 : Value).ownBlock ∧ some k_ ≠ (.slice Ao99 tz71.length co99 : Value).ownBlock) (.slice Ao85 xz15003_2.length co85) xz15003_2) := ⟨by (with_reducible repeat (first | apply Kd.R_alloc | apply Kd.R_drewN | apply Kd.R_drew)); exact Kd.R_mono (rf5 (Kd.R_types HO_z15003.out BKz14.out (by decide)) (fun _ hk => hk.2)) (fun _ hk => ⟨hk.1.1, hk.1.2⟩)⟩
 have n2_ : Aside0 (Kd.R k72 72 (((((w94.setCell ⟨gbz14, 0, none⟩ (.string tz66)).setCell ⟨gbz14, 1, none⟩ (.int .i64 tz67)).setCell ⟨gbz14, 2, none⟩ (.slice Ao97 tz68.length co97)).setCell ⟨gbz14, 3, none⟩ (.slice Ao99 tz71.length co99)).setCell ⟨gbz14, 4, none⟩ (.bool tz74)) w.heap.size (fun k_ => some k_ ≠ (.slice Ao84 xz15002_2.length co84 : Value).ownBlock ∧ some k_ ≠ (.slice Ao97 tz68.length co97 : Value).ownBlock) (.slice Ao102 xz28002_2.length co102) xz28002_2) := ⟨by (with_reducible repeat (first | apply Kd.R_alloc | apply Kd.R_drewN | apply Kd.R_drew)); exact Kd.R_mono (rf5 (Kd.R_types HO_z28002.out BKz14.out (by decide)) (fun _ hk => hk.2)) (fun _ hk => ⟨hk.1.1, hk.1.2⟩)⟩
 have n3_ : Aside0 (Kd.R k74 74 (((((w94.setCell ⟨gbz14, 0, none⟩ (.string tz66)).setCell ⟨gbz14, 1, none⟩ (.int .i64 tz67)).setCell ⟨gbz14, 2, none⟩ (.slice Ao97 tz68.length co97)).setCell ⟨gbz14, 3, none⟩ (.slice Ao99 tz71.length co99)).setCell ⟨gbz14, 4, none⟩ (.bool tz74)) w.heap.size (fun k_ => some k_ ≠ (.slice Ao85 xz15003_2.length co85 : Value).ownBlock ∧ some k_ ≠ (.slice Ao99 tz71.length co99 : Value).ownBlock) (.slice Ao103 xz28003_2.length co103) xz28003_2) := ⟨by (with_reducible repeat (first | apply Kd.R_alloc | apply Kd.R_drewN | apply Kd.R_drew)); exact Kd.R_mono (rf5 (Kd.R_types HO_z28003.out BKz14.out (by decide)) (fun _ hk => hk.2)) (fun _ hk => ⟨hk.1.1, hk.1.2⟩)⟩
 have n4_ : Aside0 (Kd.R (Kd.int .u8) 5 (((((w94.setCell ⟨gbz14, 0, none⟩ (.string tz66)).setCell ⟨gbz14, 1, none⟩ (.int .i64 tz67)).setCell ⟨gbz14, 2, none⟩ (.slice Ao97 tz68.length co97)).setCell ⟨gbz14, 3, none⟩ (.slice Ao99 tz71.length co99)).setCell ⟨gbz14, 4, none⟩ (.bool tz74)) w.heap.size (fun k_ => some k_ ≠ (vz33 : Value).ownBlock ∧ some k_ ≠ (vz60 : Value).ownBlock ∧ some k_ ≠ (vz63 : Value).ownBlock) vz29 yz28) := ⟨by (with_reducible repeat (first | apply Kd.R_alloc | apply Kd.R_drewN | apply Kd.R_drew)); exact Kd.R_mono (rf5 (Kd.R_types HOz30.out BKz14.out (by decide)) (fun _ hk => hk.2)) (fun _ hk => ⟨hk.1.1, ⟨hk.1.2.1, hk.1.2.2⟩⟩)⟩
 have n5_ : Aside0 (Kd.R (Kd.int .u8) 5 (((((w94.setCell ⟨gbz14, 0, none⟩ (.string tz66)).setCell ⟨gbz14, 1, none⟩ (.int .i64 tz67)).setCell ⟨gbz14, 2, none⟩ (.slice Ao97 tz68.length co97)).setCell ⟨gbz14, 3, none⟩ (.slice Ao99 tz71.length co99)).setCell ⟨gbz14, 4, none⟩ (.bool tz74)) w.heap.size (fun k_ => some k_ ≠ (vz29 : Value).ownBlock ∧ some k_ ≠ (vz60 : Value).ownBlock ∧ some k_ ≠ (vz63 : Value).ownBlock) vz33 yz32) := ⟨by (with_reducible repeat (first | apply Kd.R_alloc | apply Kd.R_drewN | apply Kd.R_drew)); exact Kd.R_mono (rf5 (Kd.R_types HOz34.out BKz14.out (by decide)) (fun _ hk => hk.2)) (fun _ hk => ⟨hk.1.1, ⟨hk.1.2.1, hk.1.2.2⟩⟩)⟩
 have n6_ : Aside0 (Kd.R (Kd.int .u8) 5 (((((w94.setCell ⟨gbz14, 0, none⟩ (.string tz66)).setCell ⟨gbz14, 1, none⟩ (.int .i64 tz67)).setCell ⟨gbz14, 2, none⟩ (.slice Ao97 tz68.length co97)).setCell ⟨gbz14, 3, none⟩ (.slice Ao99 tz71.length co99)).setCell ⟨gbz14, 4, none⟩ (.bool tz74)) w.heap.size (fun k_ => some k_ ≠ (vz29 : Value).ownBlock ∧ some k_ ≠ (vz33 : Value).ownBlock ∧ some k_ ≠ (vz63 : Value).ownBlock) vz60 yz59) := ⟨by (with_reducible repeat (first | apply Kd.R_alloc | apply Kd.R_drewN | apply Kd.R_drew)); exact Kd.R_mono (rf5 (Kd.R_types HOz61.out BKz14.out (by decide)) (fun _ hk => hk.2)) (fun _ hk => ⟨hk.1.1, ⟨hk.1.2.1, hk.1.2.2⟩⟩)⟩
 have n7_ : Aside0 (Kd.R (Kd.int .u8) 5 (((((w94.setCell ⟨gbz14, 0, none⟩ (.string tz66)).setCell ⟨gbz14, 1, none⟩ (.int .i64 tz67)).setCell ⟨gbz14, 2, none⟩ (.slice Ao97 tz68.length co97)).setCell ⟨gbz14, 3, none⟩ (.slice Ao99 tz71.length co99)).setCell ⟨gbz14, 4, none⟩ (.bool tz74)) w.heap.size (fun k_ => some k_ ≠ (vz29 : Value).ownBlock ∧ some k_ ≠ (vz33 : Value).ownBlock ∧ some k_ ≠ (vz60 : Value).ownBlock) vz63 yz62) := ⟨by (with_reducible repeat (first | apply Kd.R_alloc | apply Kd.R_drewN | apply Kd.R_drew)); exact Kd.R_mono (rf5 (Kd.R_types HOz64.out BKz14.out (by decide)) (fun _ hk => hk.2)) (fun _ hk => ⟨hk.1.1, ⟨hk.1.2.1, hk.1.2.2⟩⟩)⟩
 have n8_ : Aside0 (Kd.R k72 72 (((((w94.setCell ⟨gbz14, 0, none⟩ (.string tz66)).setCell ⟨gbz14, 1, none⟩ (.int .i64 tz67)).setCell ⟨gbz14, 2, none⟩ (.slice Ao97 tz68.length co97)).setCell ⟨gbz14, 3, none⟩ (.slice Ao99 tz71.length co99)).setCell ⟨gbz14, 4, none⟩ (.bool tz74)) w.heap.size (fun k_ => some k_ ≠ (.slice Ao84 xz15002_2.length co84 : Value).ownBlock ∧ some k_ ≠ (.slice Ao102 xz28002_2.length co102 : Value).ownBlock) (.slice Ao97 tz68.length co97) tz68) := ⟨by (with_reducible repeat (first | apply Kd.R_alloc | apply Kd.R_drewN | apply Kd.R_drew)); exact Kd.R_mono (rf5 (Kd.R_types HOz70.out BKz14.out (by decide)) (fun _ hk => hk.2)) (fun _ hk => ⟨hk.1.1.2, hk.1.2⟩)⟩
 have n9_ : Aside0 (Kd.R k74 74 (((((w94.setCell ⟨gbz14, 0, none⟩ (.string tz66)).setCell ⟨gbz14, 1, none⟩ (.int .i64 tz67)).setCell ⟨gbz14, 2, none⟩ (.slice Ao97 tz68.length co97)).setCell ⟨gbz14, 3, none⟩ (.slice Ao99 tz71.length co99)).setCell ⟨gbz14, 4, none⟩ (.bool tz74)) w.heap.size (fun k_ => some k_ ≠ (.slice Ao85 xz15003_2.length co85 : Value).ownBlock ∧ some k_ ≠ (.slice Ao103 xz28003_2.length co103 : Value).ownBlock) (.slice Ao99 tz71.length co99) tz71) := ⟨by (with_reducible repeat (first | apply Kd.R_alloc | apply Kd.R_drewN | apply Kd.R_drew)); exact Kd.R_mono (rf5 (Kd.R_types HOz73.out BKz14.out (by decide)) (fun _ hk => hk.2)) (fun _ hk => ⟨hk.1.1.2, hk.1.2⟩)⟩
 have n10_ : Aside0 ((((((w94.setCell ⟨gbz14, 0, none⟩ (.string tz66)).setCell ⟨gbz14, 1, none⟩ (.int .i64 tz67)).setCell ⟨gbz14, 2, none⟩ (.slice Ao97 tz68.length co97)).setCell ⟨gbz14, 3, none⟩ (.slice Ao99 tz71.length co99)).setCell ⟨gbz14, 4, none⟩ (.bool tz74)).heap[gbz14]? = some (.cells #[.string tz66, .int .i64 tz67, .slice Ao97 tz68.length co97, .slice Ao99 tz71.length co99, .bool tz74] 50 (0, 0))) := ⟨by (with_reducible repeat (first | refine blk_drewN ?_ _ | refine blk_drew ?_ | refine blk_alloc ?_ _)); refine blk_put (cs := #[.string tz66, .int .i64 tz67, .slice Ao97 tz68.length co97, .slice Ao99 tz71.length co99, .bool xz15004_2]) ?_ 4 _ rfl; (with_reducible repeat (first | refine blk_drewN ?_ _ | refine blk_drew ?_ | refine blk_alloc ?_ _)); refine blk_put (cs := #[.string tz66, .int .i64 tz67, .slice Ao97 tz68.length co97, .slice Ao85 xz15003_2.length co85, .bool xz15004_2]) ?_ 3 _ rfl; (with_reducible repeat (first | refine blk_drewN ?_ _ | refine blk_drew ?_ | refine blk_alloc ?_ _)); refine blk_put (cs := #[.string tz66, .int .i64 tz67, .slice Ao84 xz15002_2.length co84, .slice Ao85 xz15003_2.length co85, .bool xz15004_2]) ?_ 2 _ rfl; (with_reducible repeat (first | refine blk_drewN ?_ _ | refine blk_drew ?_ | refine blk_alloc ?_ _)); refine blk_put (cs := #[.string tz66, .int .i64 xz15001_2, .slice Ao84 xz15002_2.length co84, .slice Ao85 xz15003_2.length co85, .bool xz15004_2]) ?_ 1 _ rfl; (with_reducible repeat (first | refine blk_drewN ?_ _ | refine blk_drew ?_ | refine blk_alloc ?_ _)); refine blk_put (cs := #[.string xz15000_2, .int .i64 xz15001_2, .slice Ao84 xz15002_2.length co84, .slice Ao85 xz15003_2.length co85, .bool xz15004_2]) ?_ 0 _ rfl; (with_reducible repeat (first | refine blk_drewN ?_ _ | refine blk_drew ?_ | refine blk_alloc ?_ _)); exact BKz14.out⟩
 have n11_ : Aside0 ((((((w94.setCell ⟨gbz14, 0, none⟩ (.string tz66)).setCell ⟨gbz14, 1, none⟩ (.int .i64 tz67)).setCell ⟨gbz14, 2, none⟩ (.slice Ao97 tz68.length co97)).setCell ⟨gbz14, 3, none⟩ (.slice Ao99 tz71.length co99)).setCell ⟨gbz14, 4, none⟩ (.bool tz74)).heap[gbz27]? = some (.cells #[.string xz28000_2, .int .i64 xz28001_2, .slice Ao102 xz28002_2.length co102, .slice Ao103 xz28003_2.length co103, .bool xz28004_2] 50 (0, 0))) := ⟨by (with_reducible repeat (first | refine blk_drewN ?_ _ | refine blk_drew ?_ | refine blk_alloc ?_ _)); refine blk_far ?_ NBz27_z14.out _; (with_reducible repeat (first | refine blk_drewN ?_ _ | refine blk_drew ?_ | refine blk_alloc ?_ _)); refine blk_far ?_ NBz27_z14.out _; (with_reducible repeat (first | refine blk_drewN ?_ _ | refine blk_drew ?_ | refine blk_alloc ?_ _)); refine blk_far ?_ NBz27_z14.out _; (with_reducible repeat (first | refine blk_drewN ?_ _ | refine blk_drew ?_ | refine blk_alloc ?_ _)); refine blk_far ?_ NBz27_z14.out _; (with_reducible repeat (first | refine blk_drewN ?_ _ | refine blk_drew ?_ | refine blk_alloc ?_ _)); refine blk_far ?_ NBz27_z14.out _; (with_reducible repeat (first | refine blk_drewN ?_ _ | refine blk_drew ?_ | refine blk_alloc ?_ _)); exact BKz27.out⟩
 have n12_ : Aside0 (Below w.heap.size w (((((w94.setCell ⟨gbz14, 0, none⟩ (.string tz66)).setCell ⟨gbz14, 1, none⟩ (.int .i64 tz67)).setCell ⟨gbz14, 2, none⟩ (.slice Ao97 tz68.length co97)).setCell ⟨gbz14, 3, none⟩ (.slice Ao99 tz71.length co99)).setCell ⟨gbz14, 4, none⟩ (.bool tz74))) := ⟨by repeat (first | (with_reducible first | exact HB.out | apply below_alloc | apply pw_below_drewN | apply below_drew1 | refine below_set ?_ GEz14.out | refine below_set ?_ GEz27.out) | exact HB.out)⟩
 (try clear HO_z15002); (try clear HO_z15003); (try clear HO_z28002); (try clear HO_z28003); (try clear HOz30); (try clear HOz34); (try clear HOz61); (try clear HOz64); (try clear HOz70); (try clear HOz73); (try clear BKz14); (try clear BKz27); (try clear HB)
 generalize (((((w94.setCell ⟨gbz14, 0, none⟩ (.string tz66)).setCell ⟨gbz14, 1, none⟩ (.int .i64 tz67)).setCell ⟨gbz14, 2, none⟩ (.slice Ao97 tz68.length co97)).setCell ⟨gbz14, 3, none⟩ (.slice Ao99 tz71.length co99)).setCell ⟨gbz14, 4, none⟩ (.bool tz74)) = w104 at n0_ n1_ n2_ n3_ n4_ n5_ n6_ n7_ n8_ n9_ n10_ n11_ n12_ ⊢
 have HO_z15002 := n0_; have HO_z15003 := n1_; have HO_z28002 := n2_; have HO_z28003 := n3_; have HOz30 := n4_; have HOz34 := n5_; have HOz61 := n6_; have HOz64 := n7_; have HOz70 := n8_; have HOz73 := n9_; have BKz14 := n10_; have BKz27 := n11_; have HB := n12_; clear n0_ n1_ n2_ n3_ n4_ n5_ n6_ n7_ n8_ n9_ n10_ n11_ n12_
 have n0_ := am (Kd.R_drew HO_z15002.out)
 have n1_ := am (Kd.R_drew HO_z15003.out)
 have n2_ := am (Kd.R_drew HO_z28002.out)
 have n3_ := am (Kd.R_drew HO_z28003.out)
 have n4_ := am (Kd.R_drew HOz30.out)
 have n5_ := am (Kd.R_drew HOz34.out)
 have n6_ := am (Kd.R_drew HOz61.out)
 have n7_ := am (Kd.R_drew HOz64.out)
 have n8_ := am (Kd.R_drew HOz70.out)
 have n9_ := am (Kd.R_drew HOz73.out)
 have n10_ := am (blk_drew BKz14.out)
 have n11_ := am (blk_drew BKz27.out)
 have n12_ := am (below_drew1 HB.out)
 clear HO_z15002 HO_z15003 HO_z28002 HO_z28003 HOz30 HOz34 HOz61 HOz64 HOz70 HOz73 BKz14 BKz27 HB; have HO_z15002 := n0_; have HO_z15003 := n1_; have HO_z28002 := n2_; have HO_z28003 := n3_; have HOz30 := n4_; have HOz34 := n5_; have HOz61 := n6_; have HOz64 := n7_; have HOz70 := n8_; have HOz73 := n9_; have BKz14 := n10_; have BKz27 := n11_; have HB := n12_; clear n0_ n1_ n2_ n3_ n4_ n5_ n6_ n7_ n8_ n9_ n10_ n11_ n12_
 refine start_ (n := 17) (S := fun w' => w'.cell? ⟨gbz27, 0, none⟩ = some (.string xz28000_2) ∧ w'.cell? ⟨gbz27, 1, none⟩ = some (.int .i64 xz28001_2) ∧ w'.cell? ⟨gbz27, 2, none⟩ = some (.slice Ao102 xz28002_2.length co102) ∧ w'.cell? ⟨gbz27, 3, none⟩ = some (.slice Ao103 xz28003_2.length co103) ∧ w'.cell? ⟨gbz27, 4, none⟩ = some (.bool xz28004_2)) (ds := [15]) #[false, false, false, false, false, false, false, false, false, false, false, false, false, false, false, false, false] (by kernel_rfl) rfl rfl (bc5 BKz27) (fun hHeld => ?_); refine with_tabW columbariumlaw08_IdealHangs.tab17 columbariumlaw08_IdealHangs.bits17 (fun HT_ HW_ => ?_)
 generalize w104.drew = w105 at HO_z15002 HO_z15003 HO_z28002 HO_z28003 HOz30 HOz34 HOz61 HOz64 HOz70 HOz73 BKz14 BKz27 HB hHeld ⊢
 refine pu_ 3 (some 98) HT_ rfl rfl (by kernel_rfl) (fun _ _ _ h => h) (.inl ⟨by rfl, by intro w'; go_simp; with_reducible rfl⟩) (by simp only [Act.put, sa_, s0_, s1_, i64_w, i32_w]; rfl) ?_
 refine pu_ 5 (some 100) HT_ rfl rfl (by kernel_rfl) (fun _ _ _ h => h) (.inl ⟨by rfl, by intro w'; go_simp; with_reducible rfl⟩) (by simp only [Act.put, sa_, s0_, s1_, i64_w, i32_w]; rfl) ?_
 refine tk_ 0 (some 95) HT_ HW_ rfl rfl (by kernel_rfl) (fun _ _ _ h => h) (.inl ⟨by rfl, by rintro w' ⟨s0, s1, s2, s3, s4⟩; go_simp; with_reducible rfl⟩) hHeld (by simp only [Act.put, sa_, s0_, s1_, i64_w, i32_w]; rfl) ?_
 refine join_ (σ := Value × Value) 8 #[true, true, true, true, true, true, true, true, true, false, false, false, false, false, false, false, false] (fun s_ => [(96, s_.1), (97, .string (strOfNums yz76)), (101, s_.2), (102, .string (strOfNums yz79)), (99, .string sx69), (103, .string sx72)]) (fun s_ w' => (w'.cell? ⟨gbz27, 0, none⟩ = some (.string xz28000_2) ∧ w'.cell? ⟨gbz27, 1, none⟩ = some (.int .i64 xz28001_2) ∧ w'.cell? ⟨gbz27, 2, none⟩ = some (.slice Ao102 xz28002_2.length co102) ∧ w'.cell? ⟨gbz27, 3, none⟩ = some (.slice Ao103 xz28003_2.length co103) ∧ w'.cell? ⟨gbz27, 4, none⟩ = some (.bool xz28004_2)) ∧ (Kd.R (Kd.int .u8) 5 w' w.heap.size (fun k_ => some k_ ≠ (vz33 : Value).ownBlock ∧ some k_ ≠ (vz60 : Value).ownBlock ∧ some k_ ≠ (vz63 : Value).ownBlock ∧ some k_ ≠ (s_.1 : Value).ownBlock ∧ some k_ ≠ (s_.2 : Value).ownBlock) vz29 yz28) ∧ (Kd.R (Kd.int .u8) 5 w' w.heap.size (fun k_ => some k_ ≠ (vz29 : Value).ownBlock ∧ some k_ ≠ (vz60 : Value).ownBlock ∧ some k_ ≠ (vz63 : Value).ownBlock ∧ some k_ ≠ (s_.1 : Value).ownBlock ∧ some k_ ≠ (s_.2 : Value).ownBlock) vz33 yz32) ∧ (Kd.R (Kd.int .u8) 5 w' w.heap.size (fun k_ => some k_ ≠ (vz29 : Value).ownBlock ∧ some k_ ≠ (vz33 : Value).ownBlock ∧ some k_ ≠ (vz63 : Value).ownBlock ∧ some k_ ≠ (s_.1 : Value).ownBlock ∧ some k_ ≠ (s_.2 : Value).ownBlock) vz60 yz59) ∧ (Kd.R (Kd.int .u8) 5 w' w.heap.size (fun k_ => some k_ ≠ (vz29 : Value).ownBlock ∧ some k_ ≠ (vz33 : Value).ownBlock ∧ some k_ ≠ (vz60 : Value).ownBlock ∧ some k_ ≠ (s_.1 : Value).ownBlock ∧ some k_ ≠ (s_.2 : Value).ownBlock) vz63 yz62) ∧ (Kd.R k72 72 w' w.heap.size (fun k_ => some k_ ≠ (.slice Ao84 xz15002_2.length co84 : Value).ownBlock ∧ some k_ ≠ (.slice Ao102 xz28002_2.length co102 : Value).ownBlock) (.slice Ao97 tz68.length co97) tz68) ∧ (Kd.R k74 74 w' w.heap.size (fun k_ => some k_ ≠ (.slice Ao85 xz15003_2.length co85 : Value).ownBlock ∧ some k_ ≠ (.slice Ao103 xz28003_2.length co103 : Value).ownBlock) (.slice Ao99 tz71.length co99) tz71) ∧ (Kd.R (Kd.int .u8) 5 w' w.heap.size (fun k_ => some k_ ≠ (vz29 : Value).ownBlock ∧ some k_ ≠ (vz33 : Value).ownBlock ∧ some k_ ≠ (vz60 : Value).ownBlock ∧ some k_ ≠ (vz63 : Value).ownBlock ∧ some k_ ≠ (s_.2 : Value).ownBlock) s_.1 yz76) ∧ (Kd.R (Kd.int .u8) 5 w' w.heap.size (fun k_ => some k_ ≠ (vz29 : Value).ownBlock ∧ some k_ ≠ (vz33 : Value).ownBlock ∧ some k_ ≠ (vz60 : Value).ownBlock ∧ some k_ ≠ (vz63 : Value).ownBlock ∧ some k_ ≠ (s_.1 : Value).ownBlock) s_.2 yz79) ∧ (Kd.R k72 72 w' w.heap.size (fun k_ => some k_ ≠ (.slice Ao97 tz68.length co97 : Value).ownBlock ∧ some k_ ≠ (.slice Ao102 xz28002_2.length co102 : Value).ownBlock) (.slice Ao84 xz15002_2.length co84) xz15002_2) ∧ (Kd.R k74 74 w' w.heap.size (fun k_ => some k_ ≠ (.slice Ao99 tz71.length co99 : Value).ownBlock ∧ some k_ ≠ (.slice Ao103 xz28003_2.length co103 : Value).ownBlock) (.slice Ao85 xz15003_2.length co85) xz15003_2) ∧ (Kd.R k72 72 w' w.heap.size (fun k_ => some k_ ≠ (.slice Ao97 tz68.length co97 : Value).ownBlock ∧ some k_ ≠ (.slice Ao84 xz15002_2.length co84 : Value).ownBlock) (.slice Ao102 xz28002_2.length co102) xz28002_2) ∧ (Kd.R k74 74 w' w.heap.size (fun k_ => some k_ ≠ (.slice Ao99 tz71.length co99 : Value).ownBlock ∧ some k_ ≠ (.slice Ao85 xz15003_2.length co85 : Value).ownBlock) (.slice Ao103 xz28003_2.length co103) xz28003_2) ∧ (w'.heap[gbz14]? = some (.cells #[.string tz66, .int .i64 tz67, .slice Ao97 tz68.length co97, .slice Ao99 tz71.length co99, .bool tz74] 50 (0, 0))) ∧ (w'.heap[gbz27]? = some (.cells #[.string xz28000_2, .int .i64 xz28001_2, .slice Ao102 xz28002_2.length co102, .slice Ao103 xz28003_2.length co103, .bool xz28004_2] 50 (0, 0))) ∧ (Below w.heap.size w w')) ?_ ?_
 rotate_left
 ·intro hJ1_2_6_7
  refine join_ (σ := Value × Value) 10 #[true, true, true, true, true, true, true, false, false, false, false, false, false, false, false, false, false] (fun s_ => [(96, s_.1), (97, .string (strOfNums yz76)), (101, s_.2), (99, .string sx69)]) (fun s_ w' => (w'.cell? ⟨gbz27, 0, none⟩ = some (.string xz28000_2) ∧ w'.cell? ⟨gbz27, 1, none⟩ = some (.int .i64 xz28001_2) ∧ w'.cell? ⟨gbz27, 2, none⟩ = some (.slice Ao102 xz28002_2.length co102) ∧ w'.cell? ⟨gbz27, 3, none⟩ = some (.slice Ao103 xz28003_2.length co103) ∧ w'.cell? ⟨gbz27, 4, none⟩ = some (.bool xz28004_2)) ∧ (Kd.R (Kd.int .u8) 5 w' w.heap.size (fun k_ => some k_ ≠ (vz33 : Value).ownBlock ∧ some k_ ≠ (vz60 : Value).ownBlock ∧ some k_ ≠ (vz63 : Value).ownBlock ∧ some k_ ≠ (s_.1 : Value).ownBlock ∧ some k_ ≠ (s_.2 : Value).ownBlock) vz29 yz28) ∧ (Kd.R (Kd.int .u8) 5 w' w.heap.size (fun k_ => some k_ ≠ (vz29 : Value).ownBlock ∧ some k_ ≠ (vz60 : Value).ownBlock ∧ some k_ ≠ (vz63 : Value).ownBlock ∧ some k_ ≠ (s_.1 : Value).ownBlock ∧ some k_ ≠ (s_.2 : Value).ownBlock) vz33 yz32) ∧ (Kd.R (Kd.int .u8) 5 w' w.heap.size (fun k_ => some k_ ≠ (vz29 : Value).ownBlock ∧ some k_ ≠ (vz33 : Value).ownBlock ∧ some k_ ≠ (vz63 : Value).ownBlock ∧ some k_ ≠ (s_.1 : Value).ownBlock ∧ some k_ ≠ (s_.2 : Value).ownBlock) vz60 yz59) ∧ (Kd.R (Kd.int .u8) 5 w' w.heap.size (fun k_ => some k_ ≠ (vz29 : Value).ownBlock ∧ some k_ ≠ (vz33 : Value).ownBlock ∧ some k_ ≠ (vz60 : Value).ownBlock ∧ some k_ ≠ (s_.1 : Value).ownBlock ∧ some k_ ≠ (s_.2 : Value).ownBlock) vz63 yz62) ∧ (Kd.R k72 72 w' w.heap.size (fun k_ => some k_ ≠ (.slice Ao84 xz15002_2.length co84 : Value).ownBlock ∧ some k_ ≠ (.slice Ao102 xz28002_2.length co102 : Value).ownBlock) (.slice Ao97 tz68.length co97) tz68) ∧ (Kd.R k74 74 w' w.heap.size (fun k_ => some k_ ≠ (.slice Ao85 xz15003_2.length co85 : Value).ownBlock ∧ some k_ ≠ (.slice Ao103 xz28003_2.length co103 : Value).ownBlock) (.slice Ao99 tz71.length co99) tz71) ∧ (Kd.R (Kd.int .u8) 5 w' w.heap.size (fun k_ => some k_ ≠ (vz29 : Value).ownBlock ∧ some k_ ≠ (vz33 : Value).ownBlock ∧ some k_ ≠ (vz60 : Value).ownBlock ∧ some k_ ≠ (vz63 : Value).ownBlock ∧ some k_ ≠ (s_.2 : Value).ownBlock) s_.1 yz76) ∧ (Kd.R (Kd.int .u8) 5 w' w.heap.size (fun k_ => some k_ ≠ (vz29 : Value).ownBlock ∧ some k_ ≠ (vz33 : Value).ownBlock ∧ some k_ ≠ (vz60 : Value).ownBlock ∧ some k_ ≠ (vz63 : Value).ownBlock ∧ some k_ ≠ (s_.1 : Value).ownBlock) s_.2 yz79) ∧ (Kd.R k72 72 w' w.heap.size (fun k_ => some k_ ≠ (.slice Ao97 tz68.length co97 : Value).ownBlock ∧ some k_ ≠ (.slice Ao102 xz28002_2.length co102 : Value).ownBlock) (.slice Ao84 xz15002_2.length co84) xz15002_2) ∧ (Kd.R k74 74 w' w.heap.size (fun k_ => some k_ ≠ (.slice Ao99 tz71.length co99 : Value).ownBlock ∧ some k_ ≠ (.slice Ao103 xz28003_2.length co103 : Value).ownBlock) (.slice Ao85 xz15003_2.length co85) xz15003_2) ∧ (Kd.R k72 72 w' w.heap.size (fun k_ => some k_ ≠ (.slice Ao97 tz68.length co97 : Value).ownBlock ∧ some k_ ≠ (.slice Ao84 xz15002_2.length co84 : Value).ownBlock) (.slice Ao102 xz28002_2.length co102) xz28002_2) ∧ (Kd.R k74 74 w' w.heap.size (fun k_ => some k_ ≠ (.slice Ao99 tz71.length co99 : Value).ownBlock ∧ some k_ ≠ (.slice Ao85 xz15003_2.length co85 : Value).ownBlock) (.slice Ao103 xz28003_2.length co103) xz28003_2) ∧ (w'.heap[gbz14]? = some (.cells #[.string tz66, .int .i64 tz67, .slice Ao97 tz68.length co97, .slice Ao99 tz71.length co99, .bool tz74] 50 (0, 0))) ∧ (w'.heap[gbz27]? = some (.cells #[.string xz28000_2, .int .i64 xz28001_2, .slice Ao102 xz28002_2.length co102, .slice Ao103 xz28003_2.length co103, .bool xz28004_2] 50 (0, 0))) ∧ (Below w.heap.size w w')) ?_ ?_
  rotate_left
  ·intro hJ1_2_6
   refine join_ (σ := Value × Value) 10 #[true, true, false, true, false, true, true, true, true, false, false, false, false, false, false, false, false] (fun s_ => [(96, s_.1), (101, s_.2), (102, .string (strOfNums yz79)), (103, .string sx72)]) (fun s_ w' => (w'.cell? ⟨gbz27, 0, none⟩ = some (.string xz28000_2) ∧ w'.cell? ⟨gbz27, 1, none⟩ = some (.int .i64 xz28001_2) ∧ w'.cell? ⟨gbz27, 2, none⟩ = some (.slice Ao102 xz28002_2.length co102) ∧ w'.cell? ⟨gbz27, 3, none⟩ = some (.slice Ao103 xz28003_2.length co103) ∧ w'.cell? ⟨gbz27, 4, none⟩ = some (.bool xz28004_2)) ∧ (Kd.R (Kd.int .u8) 5 w' w.heap.size (fun k_ => some k_ ≠ (vz33 : Value).ownBlock ∧ some k_ ≠ (vz60 : Value).ownBlock ∧ some k_ ≠ (vz63 : Value).ownBlock ∧ some k_ ≠ (s_.1 : Value).ownBlock ∧ some k_ ≠ (s_.2 : Value).ownBlock) vz29 yz28) ∧ (Kd.R (Kd.int .u8) 5 w' w.heap.size (fun k_ => some k_ ≠ (vz29 : Value).ownBlock ∧ some k_ ≠ (vz60 : Value).ownBlock ∧ some k_ ≠ (vz63 : Value).ownBlock ∧ some k_ ≠ (s_.1 : Value).ownBlock ∧ some k_ ≠ (s_.2 : Value).ownBlock) vz33 yz32) ∧ (Kd.R (Kd.int .u8) 5 w' w.heap.size (fun k_ => some k_ ≠ (vz29 : Value).ownBlock ∧ some k_ ≠ (vz33 : Value).ownBlock ∧ some k_ ≠ (vz63 : Value).ownBlock ∧ some k_ ≠ (s_.1 : Value).ownBlock ∧ some k_ ≠ (s_.2 : Value).ownBlock) vz60 yz59) ∧ (Kd.R (Kd.int .u8) 5 w' w.heap.size (fun k_ => some k_ ≠ (vz29 : Value).ownBlock ∧ some k_ ≠ (vz33 : Value).ownBlock ∧ some k_ ≠ (vz60 : Value).ownBlock ∧ some k_ ≠ (s_.1 : Value).ownBlock ∧ some k_ ≠ (s_.2 : Value).ownBlock) vz63 yz62) ∧ (Kd.R k72 72 w' w.heap.size (fun k_ => some k_ ≠ (.slice Ao84 xz15002_2.length co84 : Value).ownBlock ∧ some k_ ≠ (.slice Ao102 xz28002_2.length co102 : Value).ownBlock) (.slice Ao97 tz68.length co97) tz68) ∧ (Kd.R k74 74 w' w.heap.size (fun k_ => some k_ ≠ (.slice Ao85 xz15003_2.length co85 : Value).ownBlock ∧ some k_ ≠ (.slice Ao103 xz28003_2.length co103 : Value).ownBlock) (.slice Ao99 tz71.length co99) tz71) ∧ (Kd.R (Kd.int .u8) 5 w' w.heap.size (fun k_ => some k_ ≠ (vz29 : Value).ownBlock ∧ some k_ ≠ (vz33 : Value).ownBlock ∧ some k_ ≠ (vz60 : Value).ownBlock ∧ some k_ ≠ (vz63 : Value).ownBlock ∧ some k_ ≠ (s_.2 : Value).ownBlock) s_.1 yz76) ∧ (Kd.R (Kd.int .u8) 5 w' w.heap.size (fun k_ => some k_ ≠ (vz29 : Value).ownBlock ∧ some k_ ≠ (vz33 : Value).ownBlock ∧ some k_ ≠ (vz60 : Value).ownBlock ∧ some k_ ≠ (vz63 : Value).ownBlock ∧ some k_ ≠ (s_.1 : Value).ownBlock) s_.2 yz79) ∧ (Kd.R k72 72 w' w.heap.size (fun k_ => some k_ ≠ (.slice Ao97 tz68.length co97 : Value).ownBlock ∧ some k_ ≠ (.slice Ao102 xz28002_2.length co102 : Value).ownBlock) (.slice Ao84 xz15002_2.length co84) xz15002_2) ∧ (Kd.R k74 74 w' w.heap.size (fun k_ => some k_ ≠ (.slice Ao99 tz71.length co99 : Value).ownBlock ∧ some k_ ≠ (.slice Ao103 xz28003_2.length co103 : Value).ownBlock) (.slice Ao85 xz15003_2.length co85) xz15003_2) ∧ (Kd.R k72 72 w' w.heap.size (fun k_ => some k_ ≠ (.slice Ao97 tz68.length co97 : Value).ownBlock ∧ some k_ ≠ (.slice Ao84 xz15002_2.length co84 : Value).ownBlock) (.slice Ao102 xz28002_2.length co102) xz28002_2) ∧ (Kd.R k74 74 w' w.heap.size (fun k_ => some k_ ≠ (.slice Ao99 tz71.length co99 : Value).ownBlock ∧ some k_ ≠ (.slice Ao85 xz15003_2.length co85 : Value).ownBlock) (.slice Ao103 xz28003_2.length co103) xz28003_2) ∧ (w'.heap[gbz14]? = some (.cells #[.string tz66, .int .i64 tz67, .slice Ao97 tz68.length co97, .slice Ao99 tz71.length co99, .bool tz74] 50 (0, 0))) ∧ (w'.heap[gbz27]? = some (.cells #[.string xz28000_2, .int .i64 xz28001_2, .slice Ao102 xz28002_2.length co102, .slice Ao103 xz28003_2.length co103, .bool xz28004_2] 50 (0, 0))) ∧ (Below w.heap.size w w')) ?_ ?_
   rotate_left
   ·intro hJ1_6_7
    refine join_ (σ := Value) 11 #[true, true, true, true, true, true, false, false, false, false, false, false, false, false, false, false, false] (fun s_ => [(96, s_), (97, .string (strOfNums yz76)), (99, .string sx69)]) (fun s_ w' => (w'.cell? ⟨gbz27, 0, none⟩ = some (.string xz28000_2) ∧ w'.cell? ⟨gbz27, 1, none⟩ = some (.int .i64 xz28001_2) ∧ w'.cell? ⟨gbz27, 2, none⟩ = some (.slice Ao102 xz28002_2.length co102) ∧ w'.cell? ⟨gbz27, 3, none⟩ = some (.slice Ao103 xz28003_2.length co103) ∧ w'.cell? ⟨gbz27, 4, none⟩ = some (.bool xz28004_2)) ∧ (Kd.R (Kd.int .u8) 5 w' w.heap.size (fun k_ => some k_ ≠ (vz33 : Value).ownBlock ∧ some k_ ≠ (vz60 : Value).ownBlock ∧ some k_ ≠ (vz63 : Value).ownBlock ∧ some k_ ≠ (s_ : Value).ownBlock) vz29 yz28) ∧ (Kd.R (Kd.int .u8) 5 w' w.heap.size (fun k_ => some k_ ≠ (vz29 : Value).ownBlock ∧ some k_ ≠ (vz60 : Value).ownBlock ∧ some k_ ≠ (vz63 : Value).ownBlock ∧ some k_ ≠ (s_ : Value).ownBlock) vz33 yz32) ∧ (Kd.R (Kd.int .u8) 5 w' w.heap.size (fun k_ => some k_ ≠ (vz29 : Value).ownBlock ∧ some k_ ≠ (vz33 : Value).ownBlock ∧ some k_ ≠ (vz63 : Value).ownBlock ∧ some k_ ≠ (s_ : Value).ownBlock) vz60 yz59) ∧ (Kd.R (Kd.int .u8) 5 w' w.heap.size (fun k_ => some k_ ≠ (vz29 : Value).ownBlock ∧ some k_ ≠ (vz33 : Value).ownBlock ∧ some k_ ≠ (vz60 : Value).ownBlock ∧ some k_ ≠ (s_ : Value).ownBlock) vz63 yz62) ∧ (Kd.R k72 72 w' w.heap.size (fun k_ => some k_ ≠ (.slice Ao84 xz15002_2.length co84 : Value).ownBlock ∧ some k_ ≠ (.slice Ao102 xz28002_2.length co102 : Value).ownBlock) (.slice Ao97 tz68.length co97) tz68) ∧ (Kd.R k74 74 w' w.heap.size (fun k_ => some k_ ≠ (.slice Ao85 xz15003_2.length co85 : Value).ownBlock ∧ some k_ ≠ (.slice Ao103 xz28003_2.length co103 : Value).ownBlock) (.slice Ao99 tz71.length co99) tz71) ∧ (Kd.R (Kd.int .u8) 5 w' w.heap.size (fun k_ => some k_ ≠ (vz29 : Value).ownBlock ∧ some k_ ≠ (vz33 : Value).ownBlock ∧ some k_ ≠ (vz60 : Value).ownBlock ∧ some k_ ≠ (vz63 : Value).ownBlock) s_ yz76) ∧ (Kd.R k72 72 w' w.heap.size (fun k_ => some k_ ≠ (.slice Ao97 tz68.length co97 : Value).ownBlock ∧ some k_ ≠ (.slice Ao102 xz28002_2.length co102 : Value).ownBlock) (.slice Ao84 xz15002_2.length co84) xz15002_2) ∧ (Kd.R k74 74 w' w.heap.size (fun k_ => some k_ ≠ (.slice Ao99 tz71.length co99 : Value).ownBlock ∧ some k_ ≠ (.slice Ao103 xz28003_2.length co103 : Value).ownBlock) (.slice Ao85 xz15003_2.length co85) xz15003_2) ∧ (Kd.R k72 72 w' w.heap.size (fun k_ => some k_ ≠ (.slice Ao97 tz68.length co97 : Value).ownBlock ∧ some k_ ≠ (.slice Ao84 xz15002_2.length co84 : Value).ownBlock) (.slice Ao102 xz28002_2.length co102) xz28002_2) ∧ (Kd.R k74 74 w' w.heap.size (fun k_ => some k_ ≠ (.slice Ao99 tz71.length co99 : Value).ownBlock ∧ some k_ ≠ (.slice Ao85 xz15003_2.length co85 : Value).ownBlock) (.slice Ao103 xz28003_2.length co103) xz28003_2) ∧ (w'.heap[gbz14]? = some (.cells #[.string tz66, .int .i64 tz67, .slice Ao97 tz68.length co97, .slice Ao99 tz71.length co99, .bool tz74] 50 (0, 0))) ∧ (w'.heap[gbz27]? = some (.cells #[.string xz28000_2, .int .i64 xz28001_2, .slice Ao102 xz28002_2.length co102, .slice Ao103 xz28003_2.length co103, .bool xz28004_2] 50 (0, 0))) ∧ (Below w.heap.size w w')) ?_ ?_
    rotate_left
    ·intro hJ1_2
     refine join_ (σ := Value × Value) 12 #[true, true, false, true, false, true, true, false, false, false, false, false, false, false, false, false, false] (fun s_ => [(96, s_.1), (101, s_.2)]) (fun s_ w' => (w'.cell? ⟨gbz27, 0, none⟩ = some (.string xz28000_2) ∧ w'.cell? ⟨gbz27, 1, none⟩ = some (.int .i64 xz28001_2) ∧ w'.cell? ⟨gbz27, 2, none⟩ = some (.slice Ao102 xz28002_2.length co102) ∧ w'.cell? ⟨gbz27, 3, none⟩ = some (.slice Ao103 xz28003_2.length co103) ∧ w'.cell? ⟨gbz27, 4, none⟩ = some (.bool xz28004_2)) ∧ (Kd.R (Kd.int .u8) 5 w' w.heap.size (fun k_ => some k_ ≠ (vz33 : Value).ownBlock ∧ some k_ ≠ (vz60 : Value).ownBlock ∧ some k_ ≠ (vz63 : Value).ownBlock ∧ some k_ ≠ (s_.1 : Value).ownBlock ∧ some k_ ≠ (s_.2 : Value).ownBlock) vz29 yz28) ∧ (Kd.R (Kd.int .u8) 5 w' w.heap.size (fun k_ => some k_ ≠ (vz29 : Value).ownBlock ∧ some k_ ≠ (vz60 : Value).ownBlock ∧ some k_ ≠ (vz63 : Value).ownBlock ∧ some k_ ≠ (s_.1 : Value).ownBlock ∧ some k_ ≠ (s_.2 : Value).ownBlock) vz33 yz32) ∧ (Kd.R (Kd.int .u8) 5 w' w.heap.size (fun k_ => some k_ ≠ (vz29 : Value).ownBlock ∧ some k_ ≠ (vz33 : Value).ownBlock ∧ some k_ ≠ (vz63 : Value).ownBlock ∧ some k_ ≠ (s_.1 : Value).ownBlock ∧ some k_ ≠ (s_.2 : Value).ownBlock) vz60 yz59) ∧ (Kd.R (Kd.int .u8) 5 w' w.heap.size (fun k_ => some k_ ≠ (vz29 : Value).ownBlock ∧ some k_ ≠ (vz33 : Value).ownBlock ∧ some k_ ≠ (vz60 : Value).ownBlock ∧ some k_ ≠ (s_.1 : Value).ownBlock ∧ some k_ ≠ (s_.2 : Value).ownBlock) vz63 yz62) ∧ (Kd.R k72 72 w' w.heap.size (fun k_ => some k_ ≠ (.slice Ao84 xz15002_2.length co84 : Value).ownBlock ∧ some k_ ≠ (.slice Ao102 xz28002_2.length co102 : Value).ownBlock) (.slice Ao97 tz68.length co97) tz68) ∧ (Kd.R k74 74 w' w.heap.size (fun k_ => some k_ ≠ (.slice Ao85 xz15003_2.length co85 : Value).ownBlock ∧ some k_ ≠ (.slice Ao103 xz28003_2.length co103 : Value).ownBlock) (.slice Ao99 tz71.length co99) tz71) ∧ (Kd.R (Kd.int .u8) 5 w' w.heap.size (fun k_ => some k_ ≠ (vz29 : Value).ownBlock ∧ some k_ ≠ (vz33 : Value).ownBlock ∧ some k_ ≠ (vz60 : Value).ownBlock ∧ some k_ ≠ (vz63 : Value).ownBlock ∧ some k_ ≠ (s_.2 : Value).ownBlock) s_.1 yz76) ∧ (Kd.R (Kd.int .u8) 5 w' w.heap.size (fun k_ => some k_ ≠ (vz29 : Value).ownBlock ∧ some k_ ≠ (vz33 : Value).ownBlock ∧ some k_ ≠ (vz60 : Value).ownBlock ∧ some k_ ≠ (vz63 : Value).ownBlock ∧ some k_ ≠ (s_.1 : Value).ownBlock) s_.2 yz79) ∧ (Kd.R k72 72 w' w.heap.size (fun k_ => some k_ ≠ (.slice Ao97 tz68.length co97 : Value).ownBlock ∧ some k_ ≠ (.slice Ao102 xz28002_2.length co102 : Value).ownBlock) (.slice Ao84 xz15002_2.length co84) xz15002_2) ∧ (Kd.R k74 74 w' w.heap.size (fun k_ => some k_ ≠ (.slice Ao99 tz71.length co99 : Value).ownBlock ∧ some k_ ≠ (.slice Ao103 xz28003_2.length co103 : Value).ownBlock) (.slice Ao85 xz15003_2.length co85) xz15003_2) ∧ (Kd.R k72 72 w' w.heap.size (fun k_ => some k_ ≠ (.slice Ao97 tz68.length co97 : Value).ownBlock ∧ some k_ ≠ (.slice Ao84 xz15002_2.length co84 : Value).ownBlock) (.slice Ao102 xz28002_2.length co102) xz28002_2) ∧ (Kd.R k74 74 w' w.heap.size (fun k_ => some k_ ≠ (.slice Ao99 tz71.length co99 : Value).ownBlock ∧ some k_ ≠ (.slice Ao85 xz15003_2.length co85 : Value).ownBlock) (.slice Ao103 xz28003_2.length co103) xz28003_2) ∧ (w'.heap[gbz14]? = some (.cells #[.string tz66, .int .i64 tz67, .slice Ao97 tz68.length co97, .slice Ao99 tz71.length co99, .bool tz74] 50 (0, 0))) ∧ (w'.heap[gbz27]? = some (.cells #[.string xz28000_2, .int .i64 xz28001_2, .slice Ao102 xz28002_2.length co102, .slice Ao103 xz28003_2.length co103, .bool xz28004_2] 50 (0, 0))) ∧ (Below w.heap.size w w')) ?_ ?_
     rotate_left
     ·intro hJ1_6
      refine join_ (σ := Value) 11 #[true, false, false, true, false, true, true, true, true, false, false, false, false, false, false, false, false] (fun s_ => [(101, s_), (102, .string (strOfNums yz79)), (103, .string sx72)]) (fun s_ w' => (w'.cell? ⟨gbz27, 0, none⟩ = some (.string xz28000_2) ∧ w'.cell? ⟨gbz27, 1, none⟩ = some (.int .i64 xz28001_2) ∧ w'.cell? ⟨gbz27, 2, none⟩ = some (.slice Ao102 xz28002_2.length co102) ∧ w'.cell? ⟨gbz27, 3, none⟩ = some (.slice Ao103 xz28003_2.length co103) ∧ w'.cell? ⟨gbz27, 4, none⟩ = some (.bool xz28004_2)) ∧ (Kd.R (Kd.int .u8) 5 w' w.heap.size (fun k_ => some k_ ≠ (vz33 : Value).ownBlock ∧ some k_ ≠ (vz60 : Value).ownBlock ∧ some k_ ≠ (vz63 : Value).ownBlock ∧ some k_ ≠ (s_ : Value).ownBlock) vz29 yz28) ∧ (Kd.R (Kd.int .u8) 5 w' w.heap.size (fun k_ => some k_ ≠ (vz29 : Value).ownBlock ∧ some k_ ≠ (vz60 : Value).ownBlock ∧ some k_ ≠ (vz63 : Value).ownBlock ∧ some k_ ≠ (s_ : Value).ownBlock) vz33 yz32) ∧ (Kd.R (Kd.int .u8) 5 w' w.heap.size (fun k_ => some k_ ≠ (vz29 : Value).ownBlock ∧ some k_ ≠ (vz33 : Value).ownBlock ∧ some k_ ≠ (vz63 : Value).ownBlock ∧ some k_ ≠ (s_ : Value).ownBlock) vz60 yz59) ∧ (Kd.R (Kd.int .u8) 5 w' w.heap.size (fun k_ => some k_ ≠ (vz29 : Value).ownBlock ∧ some k_ ≠ (vz33 : Value).ownBlock ∧ some k_ ≠ (vz60 : Value).ownBlock ∧ some k_ ≠ (s_ : Value).ownBlock) vz63 yz62) ∧ (Kd.R k72 72 w' w.heap.size (fun k_ => some k_ ≠ (.slice Ao84 xz15002_2.length co84 : Value).ownBlock ∧ some k_ ≠ (.slice Ao102 xz28002_2.length co102 : Value).ownBlock) (.slice Ao97 tz68.length co97) tz68) ∧ (Kd.R k74 74 w' w.heap.size (fun k_ => some k_ ≠ (.slice Ao85 xz15003_2.length co85 : Value).ownBlock ∧ some k_ ≠ (.slice Ao103 xz28003_2.length co103 : Value).ownBlock) (.slice Ao99 tz71.length co99) tz71) ∧ (Kd.R (Kd.int .u8) 5 w' w.heap.size (fun k_ => some k_ ≠ (vz29 : Value).ownBlock ∧ some k_ ≠ (vz33 : Value).ownBlock ∧ some k_ ≠ (vz60 : Value).ownBlock ∧ some k_ ≠ (vz63 : Value).ownBlock) s_ yz79) ∧ (Kd.R k72 72 w' w.heap.size (fun k_ => some k_ ≠ (.slice Ao97 tz68.length co97 : Value).ownBlock ∧ some k_ ≠ (.slice Ao102 xz28002_2.length co102 : Value).ownBlock) (.slice Ao84 xz15002_2.length co84) xz15002_2) ∧ (Kd.R k74 74 w' w.heap.size (fun k_ => some k_ ≠ (.slice Ao99 tz71.length co99 : Value).ownBlock ∧ some k_ ≠ (.slice Ao103 xz28003_2.length co103 : Value).ownBlock) (.slice Ao85 xz15003_2.length co85) xz15003_2) ∧ (Kd.R k72 72 w' w.heap.size (fun k_ => some k_ ≠ (.slice Ao97 tz68.length co97 : Value).ownBlock ∧ some k_ ≠ (.slice Ao84 xz15002_2.length co84 : Value).ownBlock) (.slice Ao102 xz28002_2.length co102) xz28002_2) ∧ (Kd.R k74 74 w' w.heap.size (fun k_ => some k_ ≠ (.slice Ao99 tz71.length co99 : Value).ownBlock ∧ some k_ ≠ (.slice Ao85 xz15003_2.length co85 : Value).ownBlock) (.slice Ao103 xz28003_2.length co103) xz28003_2) ∧ (w'.heap[gbz14]? = some (.cells #[.string tz66, .int .i64 tz67, .slice Ao97 tz68.length co97, .slice Ao99 tz71.length co99, .bool tz74] 50 (0, 0))) ∧ (w'.heap[gbz27]? = some (.cells #[.string xz28000_2, .int .i64 xz28001_2, .slice Ao102 xz28002_2.length co102, .slice Ao103 xz28003_2.length co103, .bool xz28004_2] 50 (0, 0))) ∧ (Below w.heap.size w w')) ?_ ?_
      rotate_left
      ·intro hJ6_7
       refine join_ (σ := Value) 13 #[true, true, false, true, false, true, false, false, false, false, false, false, false, false, false, false, false] (fun s_ => [(96, s_)]) (fun s_ w' => (w'.cell? ⟨gbz27, 0, none⟩ = some (.string xz28000_2) ∧ w'.cell? ⟨gbz27, 1, none⟩ = some (.int .i64 xz28001_2) ∧ w'.cell? ⟨gbz27, 2, none⟩ = some (.slice Ao102 xz28002_2.length co102) ∧ w'.cell? ⟨gbz27, 3, none⟩ = some (.slice Ao103 xz28003_2.length co103) ∧ w'.cell? ⟨gbz27, 4, none⟩ = some (.bool xz28004_2)) ∧ (Kd.R (Kd.int .u8) 5 w' w.heap.size (fun k_ => some k_ ≠ (vz33 : Value).ownBlock ∧ some k_ ≠ (vz60 : Value).ownBlock ∧ some k_ ≠ (vz63 : Value).ownBlock ∧ some k_ ≠ (s_ : Value).ownBlock) vz29 yz28) ∧ (Kd.R (Kd.int .u8) 5 w' w.heap.size (fun k_ => some k_ ≠ (vz29 : Value).ownBlock ∧ some k_ ≠ (vz60 : Value).ownBlock ∧ some k_ ≠ (vz63 : Value).ownBlock ∧ some k_ ≠ (s_ : Value).ownBlock) vz33 yz32) ∧ (Kd.R (Kd.int .u8) 5 w' w.heap.size (fun k_ => some k_ ≠ (vz29 : Value).ownBlock ∧ some k_ ≠ (vz33 : Value).ownBlock ∧ some k_ ≠ (vz63 : Value).ownBlock ∧ some k_ ≠ (s_ : Value).ownBlock) vz60 yz59) ∧ (Kd.R (Kd.int .u8) 5 w' w.heap.size (fun k_ => some k_ ≠ (vz29 : Value).ownBlock ∧ some k_ ≠ (vz33 : Value).ownBlock ∧ some k_ ≠ (vz60 : Value).ownBlock ∧ some k_ ≠ (s_ : Value).ownBlock) vz63 yz62) ∧ (Kd.R k72 72 w' w.heap.size (fun k_ => some k_ ≠ (.slice Ao84 xz15002_2.length co84 : Value).ownBlock ∧ some k_ ≠ (.slice Ao102 xz28002_2.length co102 : Value).ownBlock) (.slice Ao97 tz68.length co97) tz68) ∧ (Kd.R k74 74 w' w.heap.size (fun k_ => some k_ ≠ (.slice Ao85 xz15003_2.length co85 : Value).ownBlock ∧ some k_ ≠ (.slice Ao103 xz28003_2.length co103 : Value).ownBlock) (.slice Ao99 tz71.length co99) tz71) ∧ (Kd.R (Kd.int .u8) 5 w' w.heap.size (fun k_ => some k_ ≠ (vz29 : Value).ownBlock ∧ some k_ ≠ (vz33 : Value).ownBlock ∧ some k_ ≠ (vz60 : Value).ownBlock ∧ some k_ ≠ (vz63 : Value).ownBlock) s_ yz76) ∧ (Kd.R k72 72 w' w.heap.size (fun k_ => some k_ ≠ (.slice Ao97 tz68.length co97 : Value).ownBlock ∧ some k_ ≠ (.slice Ao102 xz28002_2.length co102 : Value).ownBlock) (.slice Ao84 xz15002_2.length co84) xz15002_2) ∧ (Kd.R k74 74 w' w.heap.size (fun k_ => some k_ ≠ (.slice Ao99 tz71.length co99 : Value).ownBlock ∧ some k_ ≠ (.slice Ao103 xz28003_2.length co103 : Value).ownBlock) (.slice Ao85 xz15003_2.length co85) xz15003_2) ∧ (Kd.R k72 72 w' w.heap.size (fun k_ => some k_ ≠ (.slice Ao97 tz68.length co97 : Value).ownBlock ∧ some k_ ≠ (.slice Ao84 xz15002_2.length co84 : Value).ownBlock) (.slice Ao102 xz28002_2.length co102) xz28002_2) ∧ (Kd.R k74 74 w' w.heap.size (fun k_ => some k_ ≠ (.slice Ao99 tz71.length co99 : Value).ownBlock ∧ some k_ ≠ (.slice Ao85 xz15003_2.length co85 : Value).ownBlock) (.slice Ao103 xz28003_2.length co103) xz28003_2) ∧ (w'.heap[gbz14]? = some (.cells #[.string tz66, .int .i64 tz67, .slice Ao97 tz68.length co97, .slice Ao99 tz71.length co99, .bool tz74] 50 (0, 0))) ∧ (w'.heap[gbz27]? = some (.cells #[.string xz28000_2, .int .i64 xz28001_2, .slice Ao102 xz28002_2.length co102, .slice Ao103 xz28003_2.length co103, .bool xz28004_2] 50 (0, 0))) ∧ (Below w.heap.size w w')) ?_ ?_
       rotate_left
       ·intro hJ1
        refine join_ (σ := Value) 13 #[true, false, false, true, false, true, true, false, false, false, false, false, false, false, false, false, false] (fun s_ => [(101, s_)]) (fun s_ w' => (w'.cell? ⟨gbz27, 0, none⟩ = some (.string xz28000_2) ∧ w'.cell? ⟨gbz27, 1, none⟩ = some (.int .i64 xz28001_2) ∧ w'.cell? ⟨gbz27, 2, none⟩ = some (.slice Ao102 xz28002_2.length co102) ∧ w'.cell? ⟨gbz27, 3, none⟩ = some (.slice Ao103 xz28003_2.length co103) ∧ w'.cell? ⟨gbz27, 4, none⟩ = some (.bool xz28004_2)) ∧ (Kd.R (Kd.int .u8) 5 w' w.heap.size (fun k_ => some k_ ≠ (vz33 : Value).ownBlock ∧ some k_ ≠ (vz60 : Value).ownBlock ∧ some k_ ≠ (vz63 : Value).ownBlock ∧ some k_ ≠ (s_ : Value).ownBlock) vz29 yz28) ∧ (Kd.R (Kd.int .u8) 5 w' w.heap.size (fun k_ => some k_ ≠ (vz29 : Value).ownBlock ∧ some k_ ≠ (vz60 : Value).ownBlock ∧ some k_ ≠ (vz63 : Value).ownBlock ∧ some k_ ≠ (s_ : Value).ownBlock) vz33 yz32) ∧ (Kd.R (Kd.int .u8) 5 w' w.heap.size (fun k_ => some k_ ≠ (vz29 : Value).ownBlock ∧ some k_ ≠ (vz33 : Value).ownBlock ∧ some k_ ≠ (vz63 : Value).ownBlock ∧ some k_ ≠ (s_ : Value).ownBlock) vz60 yz59) ∧ (Kd.R (Kd.int .u8) 5 w' w.heap.size (fun k_ => some k_ ≠ (vz29 : Value).ownBlock ∧ some k_ ≠ (vz33 : Value).ownBlock ∧ some k_ ≠ (vz60 : Value).ownBlock ∧ some k_ ≠ (s_ : Value).ownBlock) vz63 yz62) ∧ (Kd.R k72 72 w' w.heap.size (fun k_ => some k_ ≠ (.slice Ao84 xz15002_2.length co84 : Value).ownBlock ∧ some k_ ≠ (.slice Ao102 xz28002_2.length co102 : Value).ownBlock) (.slice Ao97 tz68.length co97) tz68) ∧ (Kd.R k74 74 w' w.heap.size (fun k_ => some k_ ≠ (.slice Ao85 xz15003_2.length co85 : Value).ownBlock ∧ some k_ ≠ (.slice Ao103 xz28003_2.length co103 : Value).ownBlock) (.slice Ao99 tz71.length co99) tz71) ∧ (Kd.R (Kd.int .u8) 5 w' w.heap.size (fun k_ => some k_ ≠ (vz29 : Value).ownBlock ∧ some k_ ≠ (vz33 : Value).ownBlock ∧ some k_ ≠ (vz60 : Value).ownBlock ∧ some k_ ≠ (vz63 : Value).ownBlock) s_ yz79) ∧ (Kd.R k72 72 w' w.heap.size (fun k_ => some k_ ≠ (.slice Ao97 tz68.length co97 : Value).ownBlock ∧ some k_ ≠ (.slice Ao102 xz28002_2.length co102 : Value).ownBlock) (.slice Ao84 xz15002_2.length co84) xz15002_2) ∧ (Kd.R k74 74 w' w.heap.size (fun k_ => some k_ ≠ (.slice Ao99 tz71.length co99 : Value).ownBlock ∧ some k_ ≠ (.slice Ao103 xz28003_2.length co103 : Value).ownBlock) (.slice Ao85 xz15003_2.length co85) xz15003_2) ∧ (Kd.R k72 72 w' w.heap.size (fun k_ => some k_ ≠ (.slice Ao97 tz68.length co97 : Value).ownBlock ∧ some k_ ≠ (.slice Ao84 xz15002_2.length co84 : Value).ownBlock) (.slice Ao102 xz28002_2.length co102) xz28002_2) ∧ (Kd.R k74 74 w' w.heap.size (fun k_ => some k_ ≠ (.slice Ao99 tz71.length co99 : Value).ownBlock ∧ some k_ ≠ (.slice Ao85 xz15003_2.length co85 : Value).ownBlock) (.slice Ao103 xz28003_2.length co103) xz28003_2) ∧ (w'.heap[gbz14]? = some (.cells #[.string tz66, .int .i64 tz67, .slice Ao97 tz68.length co97, .slice Ao99 tz71.length co99, .bool tz74] 50 (0, 0))) ∧ (w'.heap[gbz27]? = some (.cells #[.string xz28000_2, .int .i64 xz28001_2, .slice Ao102 xz28002_2.length co102, .slice Ao103 xz28003_2.length co103, .bool xz28004_2] 50 (0, 0))) ∧ (Below w.heap.size w w')) ?_ ?_
        rotate_left
        ·intro hJ6
         refine two_ (i := 1) (j := 6) (Ni := some 96) (Nj := some 101) #[true, true, false, true, false, true, false, false, false, false, false, false, false, false, false, false, false] #[true, false, false, true, false, true, true, false, false, false, false, false, false, false, false, false, false] rfl rfl rfl rfl (two_of HT_.out (by kernel_rfl)) (by decide) (by decide) (fun K hK => ?_) (fun K hK => ?_)
         ·skip
          refine Kd.R_make_step (Kd.int .u8) _ 5 (by rfl) (N := 96) rfl 57 _ _ rfl 15 rfl rfl Try.underlying57 (.int .u8 0) 1 info5 rfl (by decide) (by omega) 0 (ok := fun _ => True) (okp := fun _ => True) rfl (fun _ hk => hk) trivial (by omega) (by omega) (Below.refl _ _) (Nat.le_refl _) ?_
          intro vz77 w106 ho107 hb hg_ hnew_
          clear hg_ hnew_
          (first | rw [← Nyz76.out] at ho107 | (simp only [Int.reduceToNat] at ho107; rw [← Nyz76.out] at ho107))
          have n0_ := am (Kd.R_below (pr HO_z15002) hb)
          have n1_ := am (Kd.R_below (pr HO_z15003) hb)
          have n2_ := am (Kd.R_below (pr HO_z28002) hb)
          have n3_ := am (Kd.R_below (pr HO_z28003) hb)
          have n4_ := am (Kd.R_elder' (pr HOz30) (Kd.R_base ho107) hb)
          have n5_ := am (Kd.R_elder' (pr HOz34) (Kd.R_base ho107) hb)
          have n6_ := am (Kd.R_elder' (pr HOz61) (Kd.R_base ho107) hb)
          have n7_ := am (Kd.R_elder' (pr HOz64) (Kd.R_base ho107) hb)
          have n8_ := am (Kd.R_below (pr HOz70) hb)
          have n9_ := am (Kd.R_below (pr HOz73) hb)
          have n10_ := am (Kd.R_lower (Kd.R_new' (Kd.R_new' (Kd.R_new' (Kd.R_new' ho107 (Kd.R_lt (pr HOz30))) (Kd.R_lt (pr HOz34))) (Kd.R_lt (pr HOz61))) (Kd.R_lt (pr HOz64))) (below_size (by repeat (first | (with_reducible first | exact HB.out | apply below_alloc | apply pw_below_drewN | apply below_drew1 | refine below_set ?_ GEz14.out | refine below_set ?_ GEz27.out) | exact HB.out))))
          have n11_ := am (blk_below (pk BKz14) hb)
          have n12_ := am (blk_below (pk BKz27) hb)
          have n13_ := am (below_step (by repeat (first | (with_reducible first | exact HB.out | apply below_alloc | apply pw_below_drewN | apply below_drew1 | refine below_set ?_ GEz14.out | refine below_set ?_ GEz27.out) | exact HB.out)) hb)
          clear HO_z15002 HO_z15003 HO_z28002 HO_z28003 HOz30 HOz34 HOz61 HOz64 HOz70 HOz73 BKz14 BKz27 HB; have HO_z15002 := n0_; have HO_z15003 := n1_; have HO_z28002 := n2_; have HO_z28003 := n3_; have HOz30 := n4_; have HOz34 := n5_; have HOz61 := n6_; have HOz64 := n7_; have HOz70 := n8_; have HOz73 := n9_; have HOz78 := n10_; have BKz14 := n11_; have BKz27 := n12_; have HB := n13_; clear n0_ n1_ n2_ n3_ n4_ n5_ n6_ n7_ n8_ n9_ n10_ n11_ n12_ n13_; clear hb ho107
          refine hK.out _ _ (bc5 BKz27) (fun hHeld => ?_)
          clear hK K
          refine norm_ (by show Act.put _ (some 96) _ = _; simp only [Act.put, sa_, s0_, s1_, i64_w, i32_w]; rfl) ?_
          exact norm_ (by simp only [putAll, Act.put, sa_, s0_, s1_] <;> rfl) (hJ1 (vz77) _ ⟨hHeld, (pm HOz30 (fun _ hk => ⟨hk.1.1, ⟨hk.1.2.1, ⟨hk.1.2.2, hk.2⟩⟩⟩)), (pm HOz34 (fun _ hk => ⟨hk.1.1, ⟨hk.1.2.1, ⟨hk.1.2.2, hk.2⟩⟩⟩)), (pm HOz61 (fun _ hk => ⟨hk.1.1, ⟨hk.1.2.1, ⟨hk.1.2.2, hk.2⟩⟩⟩)), (pm HOz64 (fun _ hk => ⟨hk.1.1, ⟨hk.1.2.1, ⟨hk.1.2.2, hk.2⟩⟩⟩)), (pr HOz70), (pr HOz73), (pm HOz78 (fun _ hk => ⟨hk.1.1.1.2, ⟨hk.1.1.2, ⟨hk.1.2, hk.2⟩⟩⟩)), (pm HO_z15002 (fun _ hk => ⟨hk.2, hk.1⟩)), (pm HO_z15003 (fun _ hk => ⟨hk.2, hk.1⟩)), (pm HO_z28002 (fun _ hk => ⟨hk.2, hk.1⟩)), (pm HO_z28003 (fun _ hk => ⟨hk.2, hk.1⟩)), (pk BKz14), (pk BKz27), (by repeat (first | (with_reducible first | exact HB.out | apply below_alloc | apply pw_below_drewN | apply below_drew1 | refine below_set ?_ GEz14.out | refine below_set ?_ GEz27.out) | exact HB.out))⟩)
         skip
         refine Kd.R_make_step (Kd.int .u8) _ 5 (by rfl) (N := 101) rfl 57 _ _ rfl 23 rfl rfl Try.underlying57 (.int .u8 0) 1 info5 rfl (by decide) (by omega) 0 (ok := fun _ => True) (okp := fun _ => True) rfl (fun _ hk => hk) trivial (by omega) (by omega) (Below.refl _ _) (Nat.le_refl _) ?_
         intro vz80 w106 ho107 hb hg_ hnew_
         clear hg_ hnew_
         (first | rw [← Nyz79.out] at ho107 | (simp only [Int.reduceToNat] at ho107; rw [← Nyz79.out] at ho107))
         have n0_ := am (Kd.R_below (pr HO_z15002) hb)
         have n1_ := am (Kd.R_below (pr HO_z15003) hb)
         have n2_ := am (Kd.R_below (pr HO_z28002) hb)
         have n3_ := am (Kd.R_below (pr HO_z28003) hb)
         have n4_ := am (Kd.R_elder' (pr HOz30) (Kd.R_base ho107) hb)
         have n5_ := am (Kd.R_elder' (pr HOz34) (Kd.R_base ho107) hb)
         have n6_ := am (Kd.R_elder' (pr HOz61) (Kd.R_base ho107) hb)
         have n7_ := am (Kd.R_elder' (pr HOz64) (Kd.R_base ho107) hb)
         have n8_ := am (Kd.R_below (pr HOz70) hb)
         have n9_ := am (Kd.R_below (pr HOz73) hb)
         have n10_ := am (Kd.R_lower (Kd.R_new' (Kd.R_new' (Kd.R_new' (Kd.R_new' ho107 (Kd.R_lt (pr HOz30))) (Kd.R_lt (pr HOz34))) (Kd.R_lt (pr HOz61))) (Kd.R_lt (pr HOz64))) (below_size (by repeat (first | (with_reducible first | exact HB.out | apply below_alloc | apply pw_below_drewN | apply below_drew1 | refine below_set ?_ GEz14.out | refine below_set ?_ GEz27.out) | exact HB.out))))
         have n11_ := am (blk_below (pk BKz14) hb)
         have n12_ := am (blk_below (pk BKz27) hb)
         have n13_ := am (below_step (by repeat (first | (with_reducible first | exact HB.out | apply below_alloc | apply pw_below_drewN | apply below_drew1 | refine below_set ?_ GEz14.out | refine below_set ?_ GEz27.out) | exact HB.out)) hb)
         clear HO_z15002 HO_z15003 HO_z28002 HO_z28003 HOz30 HOz34 HOz61 HOz64 HOz70 HOz73 BKz14 BKz27 HB; have HO_z15002 := n0_; have HO_z15003 := n1_; have HO_z28002 := n2_; have HO_z28003 := n3_; have HOz30 := n4_; have HOz34 := n5_; have HOz61 := n6_; have HOz64 := n7_; have HOz70 := n8_; have HOz73 := n9_; have HOz81 := n10_; have BKz14 := n11_; have BKz27 := n12_; have HB := n13_; clear n0_ n1_ n2_ n3_ n4_ n5_ n6_ n7_ n8_ n9_ n10_ n11_ n12_ n13_; clear hb ho107
         refine hK.out _ _ (bc5 BKz27) (fun hHeld => ?_)
         clear hK K
         refine norm_ (by show Act.put _ (some 101) _ = _; simp only [Act.put, sa_, s0_, s1_, i64_w, i32_w]; rfl) ?_
         exact norm_ (by simp only [putAll, Act.put, sa_, s0_, s1_] <;> rfl) (hJ6 (vz80) _ ⟨hHeld, (pm HOz30 (fun _ hk => ⟨hk.1.1, ⟨hk.1.2.1, ⟨hk.1.2.2, hk.2⟩⟩⟩)), (pm HOz34 (fun _ hk => ⟨hk.1.1, ⟨hk.1.2.1, ⟨hk.1.2.2, hk.2⟩⟩⟩)), (pm HOz61 (fun _ hk => ⟨hk.1.1, ⟨hk.1.2.1, ⟨hk.1.2.2, hk.2⟩⟩⟩)), (pm HOz64 (fun _ hk => ⟨hk.1.1, ⟨hk.1.2.1, ⟨hk.1.2.2, hk.2⟩⟩⟩)), (pr HOz70), (pr HOz73), (pm HOz81 (fun _ hk => ⟨hk.1.1.1.2, ⟨hk.1.1.2, ⟨hk.1.2, hk.2⟩⟩⟩)), (pm HO_z15002 (fun _ hk => ⟨hk.2, hk.1⟩)), (pm HO_z15003 (fun _ hk => ⟨hk.2, hk.1⟩)), (pm HO_z28002 (fun _ hk => ⟨hk.2, hk.1⟩)), (pm HO_z28003 (fun _ hk => ⟨hk.2, hk.1⟩)), (pk BKz14), (pk BKz27), (by repeat (first | (with_reducible first | exact HB.out | apply below_alloc | apply pw_below_drewN | apply below_drew1 | refine below_set ?_ GEz14.out | refine below_set ?_ GEz27.out) | exact HB.out))⟩)
        ·skip
         rintro vz80 w108 ⟨hS_, h0_, h1_, h2_, h3_, h4_, h5_, h6_, h7_, h8_, h9_, h10_, h11_, h12_, h13_⟩
         have n0_ : Aside0 (Kd.R (Kd.int .u8) 5 w108 w.heap.size (fun k_ => some k_ ≠ (vz33 : Value).ownBlock ∧ some k_ ≠ (vz60 : Value).ownBlock ∧ some k_ ≠ (vz63 : Value).ownBlock ∧ some k_ ≠ (vz80 : Value).ownBlock) vz29 yz28) := ⟨h0_⟩
         have n1_ : Aside0 (Kd.R (Kd.int .u8) 5 w108 w.heap.size (fun k_ => some k_ ≠ (vz29 : Value).ownBlock ∧ some k_ ≠ (vz60 : Value).ownBlock ∧ some k_ ≠ (vz63 : Value).ownBlock ∧ some k_ ≠ (vz80 : Value).ownBlock) vz33 yz32) := ⟨h1_⟩
         have n2_ : Aside0 (Kd.R (Kd.int .u8) 5 w108 w.heap.size (fun k_ => some k_ ≠ (vz29 : Value).ownBlock ∧ some k_ ≠ (vz33 : Value).ownBlock ∧ some k_ ≠ (vz63 : Value).ownBlock ∧ some k_ ≠ (vz80 : Value).ownBlock) vz60 yz59) := ⟨h2_⟩
         have n3_ : Aside0 (Kd.R (Kd.int .u8) 5 w108 w.heap.size (fun k_ => some k_ ≠ (vz29 : Value).ownBlock ∧ some k_ ≠ (vz33 : Value).ownBlock ∧ some k_ ≠ (vz60 : Value).ownBlock ∧ some k_ ≠ (vz80 : Value).ownBlock) vz63 yz62) := ⟨h3_⟩
         have n4_ : Aside0 (Kd.R k72 72 w108 w.heap.size (fun k_ => some k_ ≠ (.slice Ao84 xz15002_2.length co84 : Value).ownBlock ∧ some k_ ≠ (.slice Ao102 xz28002_2.length co102 : Value).ownBlock) (.slice Ao97 tz68.length co97) tz68) := ⟨h4_⟩
         have n5_ : Aside0 (Kd.R k74 74 w108 w.heap.size (fun k_ => some k_ ≠ (.slice Ao85 xz15003_2.length co85 : Value).ownBlock ∧ some k_ ≠ (.slice Ao103 xz28003_2.length co103 : Value).ownBlock) (.slice Ao99 tz71.length co99) tz71) := ⟨h5_⟩
         have n6_ : Aside0 (Kd.R (Kd.int .u8) 5 w108 w.heap.size (fun k_ => some k_ ≠ (vz29 : Value).ownBlock ∧ some k_ ≠ (vz33 : Value).ownBlock ∧ some k_ ≠ (vz60 : Value).ownBlock ∧ some k_ ≠ (vz63 : Value).ownBlock) vz80 yz79) := ⟨h6_⟩
         have n7_ : Aside0 (Kd.R k72 72 w108 w.heap.size (fun k_ => some k_ ≠ (.slice Ao97 tz68.length co97 : Value).ownBlock ∧ some k_ ≠ (.slice Ao102 xz28002_2.length co102 : Value).ownBlock) (.slice Ao84 xz15002_2.length co84) xz15002_2) := ⟨h7_⟩
         have n8_ : Aside0 (Kd.R k74 74 w108 w.heap.size (fun k_ => some k_ ≠ (.slice Ao99 tz71.length co99 : Value).ownBlock ∧ some k_ ≠ (.slice Ao103 xz28003_2.length co103 : Value).ownBlock) (.slice Ao85 xz15003_2.length co85) xz15003_2) := ⟨h8_⟩
         have n9_ : Aside0 (Kd.R k72 72 w108 w.heap.size (fun k_ => some k_ ≠ (.slice Ao97 tz68.length co97 : Value).ownBlock ∧ some k_ ≠ (.slice Ao84 xz15002_2.length co84 : Value).ownBlock) (.slice Ao102 xz28002_2.length co102) xz28002_2) := ⟨h9_⟩
         have n10_ : Aside0 (Kd.R k74 74 w108 w.heap.size (fun k_ => some k_ ≠ (.slice Ao99 tz71.length co99 : Value).ownBlock ∧ some k_ ≠ (.slice Ao85 xz15003_2.length co85 : Value).ownBlock) (.slice Ao103 xz28003_2.length co103) xz28003_2) := ⟨h10_⟩
         have n11_ : Aside0 (w108.heap[gbz14]? = some (.cells #[.string tz66, .int .i64 tz67, .slice Ao97 tz68.length co97, .slice Ao99 tz71.length co99, .bool tz74] 50 (0, 0))) := ⟨h11_⟩
         have n12_ : Aside0 (w108.heap[gbz27]? = some (.cells #[.string xz28000_2, .int .i64 xz28001_2, .slice Ao102 xz28002_2.length co102, .slice Ao103 xz28003_2.length co103, .bool xz28004_2] 50 (0, 0))) := ⟨h12_⟩
         have n13_ : Aside0 (Below w.heap.size w w108) := ⟨h13_⟩
         clear HO_z15002 HO_z15003 HO_z28002 HO_z28003 HOz30 HOz34 HOz61 HOz64 HOz70 HOz73 BKz14 BKz27 HB h0_ h1_ h2_ h3_ h4_ h5_ h6_ h7_ h8_ h9_ h10_ h11_ h12_ h13_; have HOz30 := n0_; have HOz34 := n1_; have HOz61 := n2_; have HOz64 := n3_; have HOz70 := n4_; have HOz73 := n5_; have HOz81 := n6_; have HO_z15002 := n7_; have HO_z15003 := n8_; have HO_z28002 := n9_; have HO_z28003 := n10_; have BKz14 := n11_; have BKz27 := n12_; have HB := n13_; clear n0_ n1_ n2_ n3_ n4_ n5_ n6_ n7_ n8_ n9_ n10_ n11_ n12_ n13_
         have hHeld : w108.cell? ⟨gbz27, 0, none⟩ = some (.string xz28000_2) ∧ w108.cell? ⟨gbz27, 1, none⟩ = some (.int .i64 xz28001_2) ∧ w108.cell? ⟨gbz27, 2, none⟩ = some (.slice Ao102 xz28002_2.length co102) ∧ w108.cell? ⟨gbz27, 3, none⟩ = some (.slice Ao103 xz28003_2.length co103) ∧ w108.cell? ⟨gbz27, 4, none⟩ = some (.bool xz28004_2) := hS_
         refine norm_ (by simp only [putAll, Act.put, List.setIfInBounds_toArray, List.set_cons_zero, List.set_cons_succ]; rfl) ?_
         refine two_ (i := 1) (j := 7) (Ni := some 96) (Nj := some 102) #[true, true, false, true, false, true, true, false, false, false, false, false, false, false, false, false, false] #[true, false, false, true, false, true, true, true, false, false, false, false, false, false, false, false, false] rfl rfl rfl rfl (two_of HT_.out (by kernel_rfl)) (by decide) (by decide) (fun K hK => ?_) (fun K hK => ?_)
         rotate_left
         ·skip
          have hcv109 := own_string (P := Try.prog) Try.underlying57 Try.underlying5 Try.underlying9 (Kd.own_of_R HOz81.out)
          refine value_ (w1 := ?_) (v := ?_) (by rfl) rfl ?_ ?_
          rotate_left 2
          ·go_simp
           constructor
           rotate_left
           ·rfl
           rfl
          clear hcv109
          refine hK.out _ _ (bc5 BKz27) (fun hHeld => ?_)
          clear hK K
          refine norm_ (by show Act.put _ (some 102) _ = _; simp only [Act.put, sa_, s0_, s1_, i64_w, i32_w]; rfl) ?_
          refine pu_ 8 (some 103) HT_ rfl rfl (by kernel_rfl) (fun _ _ _ h => h) (.inl ⟨by rfl, by intro w'; go_simp; with_reducible rfl⟩) (by simp only [Act.put, sa_, s0_, s1_, i64_w, i32_w]; rfl) ?_
          exact norm_ (by simp only [putAll, Act.put, sa_, s0_, s1_] <;> rfl) (hJ6_7 (vz80) _ ⟨hHeld, (pr HOz30), (pr HOz34), (pr HOz61), (pr HOz64), (pr HOz70), (pr HOz73), (pr HOz81), (pr HO_z15002), (pr HO_z15003), (pr HO_z28002), (pr HO_z28003), (pk BKz14), (pk BKz27), (by repeat (first | (with_reducible first | exact HB.out | apply below_alloc | apply pw_below_drewN | apply below_drew1 | refine below_set ?_ GEz14.out | refine below_set ?_ GEz27.out) | exact HB.out))⟩)
         skip
         refine Kd.R_make_step (Kd.int .u8) _ 5 (by rfl) (N := 96) rfl 57 _ _ rfl 15 rfl rfl Try.underlying57 (.int .u8 0) 1 info5 rfl (by decide) (by omega) 0 (ok := fun _ => True) (okp := fun _ => True) rfl (fun _ hk => hk) trivial (by omega) (by omega) (Below.refl _ _) (Nat.le_refl _) ?_
         intro vz77 w109 ho110 hb hg_ hnew_
         clear hg_ hnew_
         (first | rw [← Nyz76.out] at ho110 | (simp only [Int.reduceToNat] at ho110; rw [← Nyz76.out] at ho110))
         have n0_ := am (Kd.R_below (pr HO_z15002) hb)
         have n1_ := am (Kd.R_below (pr HO_z15003) hb)
         have n2_ := am (Kd.R_below (pr HO_z28002) hb)
         have n3_ := am (Kd.R_below (pr HO_z28003) hb)
         have n4_ := am (Kd.R_elder' (pr HOz30) (Kd.R_base ho110) hb)
         have n5_ := am (Kd.R_elder' (pr HOz34) (Kd.R_base ho110) hb)
         have n6_ := am (Kd.R_elder' (pr HOz61) (Kd.R_base ho110) hb)
         have n7_ := am (Kd.R_elder' (pr HOz64) (Kd.R_base ho110) hb)
         have n8_ := am (Kd.R_below (pr HOz70) hb)
         have n9_ := am (Kd.R_below (pr HOz73) hb)
         have n10_ := am (Kd.R_elder' (pr HOz81) (Kd.R_base ho110) hb)
         have n11_ := am (Kd.R_lower (Kd.R_new' (Kd.R_new' (Kd.R_new' (Kd.R_new' (Kd.R_new' ho110 (Kd.R_lt (pr HOz30))) (Kd.R_lt (pr HOz34))) (Kd.R_lt (pr HOz61))) (Kd.R_lt (pr HOz64))) (Kd.R_lt (pr HOz81))) (below_size (by repeat (first | (with_reducible first | exact HB.out | apply below_alloc | apply pw_below_drewN | apply below_drew1 | refine below_set ?_ GEz14.out | refine below_set ?_ GEz27.out) | exact HB.out))))
         have n12_ := am (blk_below (pk BKz14) hb)
         have n13_ := am (blk_below (pk BKz27) hb)
         have n14_ := am (below_step (by repeat (first | (with_reducible first | exact HB.out | apply below_alloc | apply pw_below_drewN | apply below_drew1 | refine below_set ?_ GEz14.out | refine below_set ?_ GEz27.out) | exact HB.out)) hb)
         clear HO_z15002 HO_z15003 HO_z28002 HO_z28003 HOz30 HOz34 HOz61 HOz64 HOz70 HOz73 HOz81 BKz14 BKz27 HB; have HO_z15002 := n0_; have HO_z15003 := n1_; have HO_z28002 := n2_; have HO_z28003 := n3_; have HOz30 := n4_; have HOz34 := n5_; have HOz61 := n6_; have HOz64 := n7_; have HOz70 := n8_; have HOz73 := n9_; have HOz81 := n10_; have HOz78 := n11_; have BKz14 := n12_; have BKz27 := n13_; have HB := n14_; clear n0_ n1_ n2_ n3_ n4_ n5_ n6_ n7_ n8_ n9_ n10_ n11_ n12_ n13_ n14_; clear hb ho110
         refine hK.out _ _ (bc5 BKz27) (fun hHeld => ?_)
         clear hK K
         refine norm_ (by show Act.put _ (some 96) _ = _; simp only [Act.put, sa_, s0_, s1_, i64_w, i32_w]; rfl) ?_
         exact norm_ (by simp only [putAll, Act.put, sa_, s0_, s1_] <;> rfl) (hJ1_6 (vz77, vz80) _ ⟨hHeld, (pm HOz30 (fun _ hk => ⟨hk.1.1, ⟨hk.1.2.1, ⟨hk.1.2.2.1, ⟨hk.2, hk.1.2.2.2⟩⟩⟩⟩)), (pm HOz34 (fun _ hk => ⟨hk.1.1, ⟨hk.1.2.1, ⟨hk.1.2.2.1, ⟨hk.2, hk.1.2.2.2⟩⟩⟩⟩)), (pm HOz61 (fun _ hk => ⟨hk.1.1, ⟨hk.1.2.1, ⟨hk.1.2.2.1, ⟨hk.2, hk.1.2.2.2⟩⟩⟩⟩)), (pm HOz64 (fun _ hk => ⟨hk.1.1, ⟨hk.1.2.1, ⟨hk.1.2.2.1, ⟨hk.2, hk.1.2.2.2⟩⟩⟩⟩)), (pr HOz70), (pr HOz73), (pm HOz78 (fun _ hk => ⟨hk.1.1.1.1.2, ⟨hk.1.1.1.2, ⟨hk.1.1.2, ⟨hk.1.2, hk.2⟩⟩⟩⟩)), (pm HOz81 (fun _ hk => ⟨hk.1.1, ⟨hk.1.2.1, ⟨hk.1.2.2.1, ⟨hk.1.2.2.2, hk.2⟩⟩⟩⟩)), (pr HO_z15002), (pr HO_z15003), (pr HO_z28002), (pr HO_z28003), (pk BKz14), (pk BKz27), (by repeat (first | (with_reducible first | exact HB.out | apply below_alloc | apply pw_below_drewN | apply below_drew1 | refine below_set ?_ GEz14.out | refine below_set ?_ GEz27.out) | exact HB.out))⟩)
       ·skip
        rintro vz77 w108 ⟨hS_, h0_, h1_, h2_, h3_, h4_, h5_, h6_, h7_, h8_, h9_, h10_, h11_, h12_, h13_⟩
        have n0_ : Aside0 (Kd.R (Kd.int .u8) 5 w108 w.heap.size (fun k_ => some k_ ≠ (vz33 : Value).ownBlock ∧ some k_ ≠ (vz60 : Value).ownBlock ∧ some k_ ≠ (vz63 : Value).ownBlock ∧ some k_ ≠ (vz77 : Value).ownBlock) vz29 yz28) := ⟨h0_⟩
        have n1_ : Aside0 (Kd.R (Kd.int .u8) 5 w108 w.heap.size (fun k_ => some k_ ≠ (vz29 : Value).ownBlock ∧ some k_ ≠ (vz60 : Value).ownBlock ∧ some k_ ≠ (vz63 : Value).ownBlock ∧ some k_ ≠ (vz77 : Value).ownBlock) vz33 yz32) := ⟨h1_⟩
        have n2_ : Aside0 (Kd.R (Kd.int .u8) 5 w108 w.heap.size (fun k_ => some k_ ≠ (vz29 : Value).ownBlock ∧ some k_ ≠ (vz33 : Value).ownBlock ∧ some k_ ≠ (vz63 : Value).ownBlock ∧ some k_ ≠ (vz77 : Value).ownBlock) vz60 yz59) := ⟨h2_⟩
        have n3_ : Aside0 (Kd.R (Kd.int .u8) 5 w108 w.heap.size (fun k_ => some k_ ≠ (vz29 : Value).ownBlock ∧ some k_ ≠ (vz33 : Value).ownBlock ∧ some k_ ≠ (vz60 : Value).ownBlock ∧ some k_ ≠ (vz77 : Value).ownBlock) vz63 yz62) := ⟨h3_⟩
        have n4_ : Aside0 (Kd.R k72 72 w108 w.heap.size (fun k_ => some k_ ≠ (.slice Ao84 xz15002_2.length co84 : Value).ownBlock ∧ some k_ ≠ (.slice Ao102 xz28002_2.length co102 : Value).ownBlock) (.slice Ao97 tz68.length co97) tz68) := ⟨h4_⟩
        have n5_ : Aside0 (Kd.R k74 74 w108 w.heap.size (fun k_ => some k_ ≠ (.slice Ao85 xz15003_2.length co85 : Value).ownBlock ∧ some k_ ≠ (.slice Ao103 xz28003_2.length co103 : Value).ownBlock) (.slice Ao99 tz71.length co99) tz71) := ⟨h5_⟩
        have n6_ : Aside0 (Kd.R (Kd.int .u8) 5 w108 w.heap.size (fun k_ => some k_ ≠ (vz29 : Value).ownBlock ∧ some k_ ≠ (vz33 : Value).ownBlock ∧ some k_ ≠ (vz60 : Value).ownBlock ∧ some k_ ≠ (vz63 : Value).ownBlock) vz77 yz76) := ⟨h6_⟩
        have n7_ : Aside0 (Kd.R k72 72 w108 w.heap.size (fun k_ => some k_ ≠ (.slice Ao97 tz68.length co97 : Value).ownBlock ∧ some k_ ≠ (.slice Ao102 xz28002_2.length co102 : Value).ownBlock) (.slice Ao84 xz15002_2.length co84) xz15002_2) := ⟨h7_⟩
        have n8_ : Aside0 (Kd.R k74 74 w108 w.heap.size (fun k_ => some k_ ≠ (.slice Ao99 tz71.length co99 : Value).ownBlock ∧ some k_ ≠ (.slice Ao103 xz28003_2.length co103 : Value).ownBlock) (.slice Ao85 xz15003_2.length co85) xz15003_2) := ⟨h8_⟩
        have n9_ : Aside0 (Kd.R k72 72 w108 w.heap.size (fun k_ => some k_ ≠ (.slice Ao97 tz68.length co97 : Value).ownBlock ∧ some k_ ≠ (.slice Ao84 xz15002_2.length co84 : Value).ownBlock) (.slice Ao102 xz28002_2.length co102) xz28002_2) := ⟨h9_⟩
        have n10_ : Aside0 (Kd.R k74 74 w108 w.heap.size (fun k_ => some k_ ≠ (.slice Ao99 tz71.length co99 : Value).ownBlock ∧ some k_ ≠ (.slice Ao85 xz15003_2.length co85 : Value).ownBlock) (.slice Ao103 xz28003_2.length co103) xz28003_2) := ⟨h10_⟩
        have n11_ : Aside0 (w108.heap[gbz14]? = some (.cells #[.string tz66, .int .i64 tz67, .slice Ao97 tz68.length co97, .slice Ao99 tz71.length co99, .bool tz74] 50 (0, 0))) := ⟨h11_⟩
        have n12_ : Aside0 (w108.heap[gbz27]? = some (.cells #[.string xz28000_2, .int .i64 xz28001_2, .slice Ao102 xz28002_2.length co102, .slice Ao103 xz28003_2.length co103, .bool xz28004_2] 50 (0, 0))) := ⟨h12_⟩
        have n13_ : Aside0 (Below w.heap.size w w108) := ⟨h13_⟩
        clear HO_z15002 HO_z15003 HO_z28002 HO_z28003 HOz30 HOz34 HOz61 HOz64 HOz70 HOz73 BKz14 BKz27 HB h0_ h1_ h2_ h3_ h4_ h5_ h6_ h7_ h8_ h9_ h10_ h11_ h12_ h13_; have HOz30 := n0_; have HOz34 := n1_; have HOz61 := n2_; have HOz64 := n3_; have HOz70 := n4_; have HOz73 := n5_; have HOz78 := n6_; have HO_z15002 := n7_; have HO_z15003 := n8_; have HO_z28002 := n9_; have HO_z28003 := n10_; have BKz14 := n11_; have BKz27 := n12_; have HB := n13_; clear n0_ n1_ n2_ n3_ n4_ n5_ n6_ n7_ n8_ n9_ n10_ n11_ n12_ n13_
        have hHeld : w108.cell? ⟨gbz27, 0, none⟩ = some (.string xz28000_2) ∧ w108.cell? ⟨gbz27, 1, none⟩ = some (.int .i64 xz28001_2) ∧ w108.cell? ⟨gbz27, 2, none⟩ = some (.slice Ao102 xz28002_2.length co102) ∧ w108.cell? ⟨gbz27, 3, none⟩ = some (.slice Ao103 xz28003_2.length co103) ∧ w108.cell? ⟨gbz27, 4, none⟩ = some (.bool xz28004_2) := hS_
        refine norm_ (by simp only [putAll, Act.put, List.setIfInBounds_toArray, List.set_cons_zero, List.set_cons_succ]; rfl) ?_
        refine two_ (i := 2) (j := 6) (Ni := some 97) (Nj := some 101) #[true, true, true, true, false, true, false, false, false, false, false, false, false, false, false, false, false] #[true, true, false, true, false, true, true, false, false, false, false, false, false, false, false, false, false] rfl rfl rfl rfl (two_of HT_.out (by kernel_rfl)) (by decide) (by decide) (fun K hK => ?_) (fun K hK => ?_)
        ·skip
         have hcv109 := own_string (P := Try.prog) Try.underlying57 Try.underlying5 Try.underlying9 (Kd.own_of_R HOz78.out)
         refine value_ (w1 := ?_) (v := ?_) (by rfl) rfl ?_ ?_
         rotate_left 2
         ·go_simp
          constructor
          rotate_left
          ·rfl
          rfl
         clear hcv109
         refine hK.out _ _ (bc5 BKz27) (fun hHeld => ?_)
         clear hK K
         refine norm_ (by show Act.put _ (some 97) _ = _; simp only [Act.put, sa_, s0_, s1_, i64_w, i32_w]; rfl) ?_
         refine pu_ 4 (some 99) HT_ rfl rfl (by kernel_rfl) (fun _ _ _ h => h) (.inl ⟨by rfl, by intro w'; go_simp; with_reducible rfl⟩) (by simp only [Act.put, sa_, s0_, s1_, i64_w, i32_w]; rfl) ?_
         exact norm_ (by simp only [putAll, Act.put, sa_, s0_, s1_] <;> rfl) (hJ1_2 (vz77) _ ⟨hHeld, (pr HOz30), (pr HOz34), (pr HOz61), (pr HOz64), (pr HOz70), (pr HOz73), (pr HOz78), (pr HO_z15002), (pr HO_z15003), (pr HO_z28002), (pr HO_z28003), (pk BKz14), (pk BKz27), (by repeat (first | (with_reducible first | exact HB.out | apply below_alloc | apply pw_below_drewN | apply below_drew1 | refine below_set ?_ GEz14.out | refine below_set ?_ GEz27.out) | exact HB.out))⟩)
        skip
        refine Kd.R_make_step (Kd.int .u8) _ 5 (by rfl) (N := 101) rfl 57 _ _ rfl 23 rfl rfl Try.underlying57 (.int .u8 0) 1 info5 rfl (by decide) (by omega) 0 (ok := fun _ => True) (okp := fun _ => True) rfl (fun _ hk => hk) trivial (by omega) (by omega) (Below.refl _ _) (Nat.le_refl _) ?_
        intro vz80 w109 ho110 hb hg_ hnew_
        clear hg_ hnew_
        (first | rw [← Nyz79.out] at ho110 | (simp only [Int.reduceToNat] at ho110; rw [← Nyz79.out] at ho110))
        have n0_ := am (Kd.R_below (pr HO_z15002) hb)
        have n1_ := am (Kd.R_below (pr HO_z15003) hb)
        have n2_ := am (Kd.R_below (pr HO_z28002) hb)
        have n3_ := am (Kd.R_below (pr HO_z28003) hb)
        have n4_ := am (Kd.R_elder' (pr HOz30) (Kd.R_base ho110) hb)
        have n5_ := am (Kd.R_elder' (pr HOz34) (Kd.R_base ho110) hb)
        have n6_ := am (Kd.R_elder' (pr HOz61) (Kd.R_base ho110) hb)
        have n7_ := am (Kd.R_elder' (pr HOz64) (Kd.R_base ho110) hb)
        have n8_ := am (Kd.R_below (pr HOz70) hb)
        have n9_ := am (Kd.R_below (pr HOz73) hb)
        have n10_ := am (Kd.R_elder' (pr HOz78) (Kd.R_base ho110) hb)
        have n11_ := am (Kd.R_lower (Kd.R_new' (Kd.R_new' (Kd.R_new' (Kd.R_new' (Kd.R_new' ho110 (Kd.R_lt (pr HOz30))) (Kd.R_lt (pr HOz34))) (Kd.R_lt (pr HOz61))) (Kd.R_lt (pr HOz64))) (Kd.R_lt (pr HOz78))) (below_size (by repeat (first | (with_reducible first | exact HB.out | apply below_alloc | apply pw_below_drewN | apply below_drew1 | refine below_set ?_ GEz14.out | refine below_set ?_ GEz27.out) | exact HB.out))))
        have n12_ := am (blk_below (pk BKz14) hb)
        have n13_ := am (blk_below (pk BKz27) hb)
        have n14_ := am (below_step (by repeat (first | (with_reducible first | exact HB.out | apply below_alloc | apply pw_below_drewN | apply below_drew1 | refine below_set ?_ GEz14.out | refine below_set ?_ GEz27.out) | exact HB.out)) hb)
        clear HO_z15002 HO_z15003 HO_z28002 HO_z28003 HOz30 HOz34 HOz61 HOz64 HOz70 HOz73 HOz78 BKz14 BKz27 HB; have HO_z15002 := n0_; have HO_z15003 := n1_; have HO_z28002 := n2_; have HO_z28003 := n3_; have HOz30 := n4_; have HOz34 := n5_; have HOz61 := n6_; have HOz64 := n7_; have HOz70 := n8_; have HOz73 := n9_; have HOz78 := n10_; have HOz81 := n11_; have BKz14 := n12_; have BKz27 := n13_; have HB := n14_; clear n0_ n1_ n2_ n3_ n4_ n5_ n6_ n7_ n8_ n9_ n10_ n11_ n12_ n13_ n14_; clear hb ho110
        refine hK.out _ _ (bc5 BKz27) (fun hHeld => ?_)
        clear hK K
        refine norm_ (by show Act.put _ (some 101) _ = _; simp only [Act.put, sa_, s0_, s1_, i64_w, i32_w]; rfl) ?_
        exact norm_ (by simp only [putAll, Act.put, sa_, s0_, s1_] <;> rfl) (hJ1_6 (vz77, vz80) _ ⟨hHeld, (pm HOz30 (fun _ hk => ⟨hk.1.1, ⟨hk.1.2.1, ⟨hk.1.2.2.1, ⟨hk.1.2.2.2, hk.2⟩⟩⟩⟩)), (pm HOz34 (fun _ hk => ⟨hk.1.1, ⟨hk.1.2.1, ⟨hk.1.2.2.1, ⟨hk.1.2.2.2, hk.2⟩⟩⟩⟩)), (pm HOz61 (fun _ hk => ⟨hk.1.1, ⟨hk.1.2.1, ⟨hk.1.2.2.1, ⟨hk.1.2.2.2, hk.2⟩⟩⟩⟩)), (pm HOz64 (fun _ hk => ⟨hk.1.1, ⟨hk.1.2.1, ⟨hk.1.2.2.1, ⟨hk.1.2.2.2, hk.2⟩⟩⟩⟩)), (pr HOz70), (pr HOz73), (pm HOz78 (fun _ hk => ⟨hk.1.1, ⟨hk.1.2.1, ⟨hk.1.2.2.1, ⟨hk.1.2.2.2, hk.2⟩⟩⟩⟩)), (pm HOz81 (fun _ hk => ⟨hk.1.1.1.1.2, ⟨hk.1.1.1.2, ⟨hk.1.1.2, ⟨hk.1.2, hk.2⟩⟩⟩⟩)), (pr HO_z15002), (pr HO_z15003), (pr HO_z28002), (pr HO_z28003), (pk BKz14), (pk BKz27), (by repeat (first | (with_reducible first | exact HB.out | apply below_alloc | apply pw_below_drewN | apply below_drew1 | refine below_set ?_ GEz14.out | refine below_set ?_ GEz27.out) | exact HB.out))⟩)
      ·skip
       rintro vz80 w109 ⟨hS_, h0_, h1_, h2_, h3_, h4_, h5_, h6_, h7_, h8_, h9_, h10_, h11_, h12_, h13_⟩
       have n0_ : Aside0 (Kd.R (Kd.int .u8) 5 w109 w.heap.size (fun k_ => some k_ ≠ (vz33 : Value).ownBlock ∧ some k_ ≠ (vz60 : Value).ownBlock ∧ some k_ ≠ (vz63 : Value).ownBlock ∧ some k_ ≠ (vz80 : Value).ownBlock) vz29 yz28) := ⟨h0_⟩
       have n1_ : Aside0 (Kd.R (Kd.int .u8) 5 w109 w.heap.size (fun k_ => some k_ ≠ (vz29 : Value).ownBlock ∧ some k_ ≠ (vz60 : Value).ownBlock ∧ some k_ ≠ (vz63 : Value).ownBlock ∧ some k_ ≠ (vz80 : Value).ownBlock) vz33 yz32) := ⟨h1_⟩
       have n2_ : Aside0 (Kd.R (Kd.int .u8) 5 w109 w.heap.size (fun k_ => some k_ ≠ (vz29 : Value).ownBlock ∧ some k_ ≠ (vz33 : Value).ownBlock ∧ some k_ ≠ (vz63 : Value).ownBlock ∧ some k_ ≠ (vz80 : Value).ownBlock) vz60 yz59) := ⟨h2_⟩
       have n3_ : Aside0 (Kd.R (Kd.int .u8) 5 w109 w.heap.size (fun k_ => some k_ ≠ (vz29 : Value).ownBlock ∧ some k_ ≠ (vz33 : Value).ownBlock ∧ some k_ ≠ (vz60 : Value).ownBlock ∧ some k_ ≠ (vz80 : Value).ownBlock) vz63 yz62) := ⟨h3_⟩
       have n4_ : Aside0 (Kd.R k72 72 w109 w.heap.size (fun k_ => some k_ ≠ (.slice Ao84 xz15002_2.length co84 : Value).ownBlock ∧ some k_ ≠ (.slice Ao102 xz28002_2.length co102 : Value).ownBlock) (.slice Ao97 tz68.length co97) tz68) := ⟨h4_⟩
       have n5_ : Aside0 (Kd.R k74 74 w109 w.heap.size (fun k_ => some k_ ≠ (.slice Ao85 xz15003_2.length co85 : Value).ownBlock ∧ some k_ ≠ (.slice Ao103 xz28003_2.length co103 : Value).ownBlock) (.slice Ao99 tz71.length co99) tz71) := ⟨h5_⟩
       have n6_ : Aside0 (Kd.R (Kd.int .u8) 5 w109 w.heap.size (fun k_ => some k_ ≠ (vz29 : Value).ownBlock ∧ some k_ ≠ (vz33 : Value).ownBlock ∧ some k_ ≠ (vz60 : Value).ownBlock ∧ some k_ ≠ (vz63 : Value).ownBlock) vz80 yz79) := ⟨h6_⟩
       have n7_ : Aside0 (Kd.R k72 72 w109 w.heap.size (fun k_ => some k_ ≠ (.slice Ao97 tz68.length co97 : Value).ownBlock ∧ some k_ ≠ (.slice Ao102 xz28002_2.length co102 : Value).ownBlock) (.slice Ao84 xz15002_2.length co84) xz15002_2) := ⟨h7_⟩
       have n8_ : Aside0 (Kd.R k74 74 w109 w.heap.size (fun k_ => some k_ ≠ (.slice Ao99 tz71.length co99 : Value).ownBlock ∧ some k_ ≠ (.slice Ao103 xz28003_2.length co103 : Value).ownBlock) (.slice Ao85 xz15003_2.length co85) xz15003_2) := ⟨h8_⟩
       have n9_ : Aside0 (Kd.R k72 72 w109 w.heap.size (fun k_ => some k_ ≠ (.slice Ao97 tz68.length co97 : Value).ownBlock ∧ some k_ ≠ (.slice Ao84 xz15002_2.length co84 : Value).ownBlock) (.slice Ao102 xz28002_2.length co102) xz28002_2) := ⟨h9_⟩
       have n10_ : Aside0 (Kd.R k74 74 w109 w.heap.size (fun k_ => some k_ ≠ (.slice Ao99 tz71.length co99 : Value).ownBlock ∧ some k_ ≠ (.slice Ao85 xz15003_2.length co85 : Value).ownBlock) (.slice Ao103 xz28003_2.length co103) xz28003_2) := ⟨h10_⟩
       have n11_ : Aside0 (w109.heap[gbz14]? = some (.cells #[.string tz66, .int .i64 tz67, .slice Ao97 tz68.length co97, .slice Ao99 tz71.length co99, .bool tz74] 50 (0, 0))) := ⟨h11_⟩
       have n12_ : Aside0 (w109.heap[gbz27]? = some (.cells #[.string xz28000_2, .int .i64 xz28001_2, .slice Ao102 xz28002_2.length co102, .slice Ao103 xz28003_2.length co103, .bool xz28004_2] 50 (0, 0))) := ⟨h12_⟩
       have n13_ : Aside0 (Below w.heap.size w w109) := ⟨h13_⟩
       clear HO_z15002 HO_z15003 HO_z28002 HO_z28003 HOz30 HOz34 HOz61 HOz64 HOz70 HOz73 BKz14 BKz27 HB h0_ h1_ h2_ h3_ h4_ h5_ h6_ h7_ h8_ h9_ h10_ h11_ h12_ h13_; have HOz30 := n0_; have HOz34 := n1_; have HOz61 := n2_; have HOz64 := n3_; have HOz70 := n4_; have HOz73 := n5_; have HOz81 := n6_; have HO_z15002 := n7_; have HO_z15003 := n8_; have HO_z28002 := n9_; have HO_z28003 := n10_; have BKz14 := n11_; have BKz27 := n12_; have HB := n13_; clear n0_ n1_ n2_ n3_ n4_ n5_ n6_ n7_ n8_ n9_ n10_ n11_ n12_ n13_
       have hHeld : w109.cell? ⟨gbz27, 0, none⟩ = some (.string xz28000_2) ∧ w109.cell? ⟨gbz27, 1, none⟩ = some (.int .i64 xz28001_2) ∧ w109.cell? ⟨gbz27, 2, none⟩ = some (.slice Ao102 xz28002_2.length co102) ∧ w109.cell? ⟨gbz27, 3, none⟩ = some (.slice Ao103 xz28003_2.length co103) ∧ w109.cell? ⟨gbz27, 4, none⟩ = some (.bool xz28004_2) := hS_
       refine norm_ (by simp only [putAll, Act.put, List.setIfInBounds_toArray, List.set_cons_zero, List.set_cons_succ]; rfl) ?_
       refine on_ 1 (some 96) HT_ rfl rfl (by kernel_rfl) (by decide) (fun K hK => ?_)
       refine Kd.R_make_step (Kd.int .u8) _ 5 (by rfl) (N := 96) rfl 57 _ _ rfl 15 rfl rfl Try.underlying57 (.int .u8 0) 1 info5 rfl (by decide) (by omega) 0 (ok := fun _ => True) (okp := fun _ => True) rfl (fun _ hk => hk) trivial (by omega) (by omega) (Below.refl _ _) (Nat.le_refl _) ?_
       intro vz77 w110 ho111 hb hg_ hnew_
       clear hg_ hnew_
       (first | rw [← Nyz76.out] at ho111 | (simp only [Int.reduceToNat] at ho111; rw [← Nyz76.out] at ho111))
       have n0_ := am (Kd.R_below (pr HO_z15002) hb)
       have n1_ := am (Kd.R_below (pr HO_z15003) hb)
       have n2_ := am (Kd.R_below (pr HO_z28002) hb)
       have n3_ := am (Kd.R_below (pr HO_z28003) hb)
       have n4_ := am (Kd.R_elder' (pr HOz30) (Kd.R_base ho111) hb)
       have n5_ := am (Kd.R_elder' (pr HOz34) (Kd.R_base ho111) hb)
       have n6_ := am (Kd.R_elder' (pr HOz61) (Kd.R_base ho111) hb)
       have n7_ := am (Kd.R_elder' (pr HOz64) (Kd.R_base ho111) hb)
       have n8_ := am (Kd.R_below (pr HOz70) hb)
       have n9_ := am (Kd.R_below (pr HOz73) hb)
       have n10_ := am (Kd.R_elder' (pr HOz81) (Kd.R_base ho111) hb)
       have n11_ := am (Kd.R_lower (Kd.R_new' (Kd.R_new' (Kd.R_new' (Kd.R_new' (Kd.R_new' ho111 (Kd.R_lt (pr HOz30))) (Kd.R_lt (pr HOz34))) (Kd.R_lt (pr HOz61))) (Kd.R_lt (pr HOz64))) (Kd.R_lt (pr HOz81))) (below_size (by repeat (first | (with_reducible first | exact HB.out | apply below_alloc | apply pw_below_drewN | apply below_drew1 | refine below_set ?_ GEz14.out | refine below_set ?_ GEz27.out) | exact HB.out))))
       have n12_ := am (blk_below (pk BKz14) hb)
       have n13_ := am (blk_below (pk BKz27) hb)
       have n14_ := am (below_step (by repeat (first | (with_reducible first | exact HB.out | apply below_alloc | apply pw_below_drewN | apply below_drew1 | refine below_set ?_ GEz14.out | refine below_set ?_ GEz27.out) | exact HB.out)) hb)
       clear HO_z15002 HO_z15003 HO_z28002 HO_z28003 HOz30 HOz34 HOz61 HOz64 HOz70 HOz73 HOz81 BKz14 BKz27 HB; have HO_z15002 := n0_; have HO_z15003 := n1_; have HO_z28002 := n2_; have HO_z28003 := n3_; have HOz30 := n4_; have HOz34 := n5_; have HOz61 := n6_; have HOz64 := n7_; have HOz70 := n8_; have HOz73 := n9_; have HOz81 := n10_; have HOz78 := n11_; have BKz14 := n12_; have BKz27 := n13_; have HB := n14_; clear n0_ n1_ n2_ n3_ n4_ n5_ n6_ n7_ n8_ n9_ n10_ n11_ n12_ n13_ n14_; clear hb ho111
       refine hK.out _ _ (bc5 BKz27) (fun hHeld => ?_)
       clear hK K
       refine norm_ (by show Act.put _ (some 96) _ = _; simp only [Act.put, sa_, s0_, s1_, i64_w, i32_w]; rfl) ?_
       exact norm_ (by simp only [putAll, Act.put, sa_, s0_, s1_] <;> rfl) (hJ1_6_7 (vz77, vz80) _ ⟨hHeld, (pm HOz30 (fun _ hk => ⟨hk.1.1, ⟨hk.1.2.1, ⟨hk.1.2.2.1, ⟨hk.2, hk.1.2.2.2⟩⟩⟩⟩)), (pm HOz34 (fun _ hk => ⟨hk.1.1, ⟨hk.1.2.1, ⟨hk.1.2.2.1, ⟨hk.2, hk.1.2.2.2⟩⟩⟩⟩)), (pm HOz61 (fun _ hk => ⟨hk.1.1, ⟨hk.1.2.1, ⟨hk.1.2.2.1, ⟨hk.2, hk.1.2.2.2⟩⟩⟩⟩)), (pm HOz64 (fun _ hk => ⟨hk.1.1, ⟨hk.1.2.1, ⟨hk.1.2.2.1, ⟨hk.2, hk.1.2.2.2⟩⟩⟩⟩)), (pr HOz70), (pr HOz73), (pm HOz78 (fun _ hk => ⟨hk.1.1.1.1.2, ⟨hk.1.1.1.2, ⟨hk.1.1.2, ⟨hk.1.2, hk.2⟩⟩⟩⟩)), (pm HOz81 (fun _ hk => ⟨hk.1.1, ⟨hk.1.2.1, ⟨hk.1.2.2.1, ⟨hk.1.2.2.2, hk.2⟩⟩⟩⟩)), (pr HO_z15002), (pr HO_z15003), (pr HO_z28002), (pr HO_z28003), (pk BKz14), (pk BKz27), (by repeat (first | (with_reducible first | exact HB.out | apply below_alloc | apply pw_below_drewN | apply below_drew1 | refine below_set ?_ GEz14.out | refine below_set ?_ GEz27.out) | exact HB.out))⟩)
     ·skip
      rintro ⟨vz77, vz80⟩ w110 ⟨hS_, h0_, h1_, h2_, h3_, h4_, h5_, h6_, h7_, h8_, h9_, h10_, h11_, h12_, h13_, h14_⟩
      have n0_ : Aside0 (Kd.R (Kd.int .u8) 5 w110 w.heap.size (fun k_ => some k_ ≠ (vz33 : Value).ownBlock ∧ some k_ ≠ (vz60 : Value).ownBlock ∧ some k_ ≠ (vz63 : Value).ownBlock ∧ some k_ ≠ (vz77 : Value).ownBlock ∧ some k_ ≠ (vz80 : Value).ownBlock) vz29 yz28) := ⟨h0_⟩
      have n1_ : Aside0 (Kd.R (Kd.int .u8) 5 w110 w.heap.size (fun k_ => some k_ ≠ (vz29 : Value).ownBlock ∧ some k_ ≠ (vz60 : Value).ownBlock ∧ some k_ ≠ (vz63 : Value).ownBlock ∧ some k_ ≠ (vz77 : Value).ownBlock ∧ some k_ ≠ (vz80 : Value).ownBlock) vz33 yz32) := ⟨h1_⟩
      have n2_ : Aside0 (Kd.R (Kd.int .u8) 5 w110 w.heap.size (fun k_ => some k_ ≠ (vz29 : Value).ownBlock ∧ some k_ ≠ (vz33 : Value).ownBlock ∧ some k_ ≠ (vz63 : Value).ownBlock ∧ some k_ ≠ (vz77 : Value).ownBlock ∧ some k_ ≠ (vz80 : Value).ownBlock) vz60 yz59) := ⟨h2_⟩
      have n3_ : Aside0 (Kd.R (Kd.int .u8) 5 w110 w.heap.size (fun k_ => some k_ ≠ (vz29 : Value).ownBlock ∧ some k_ ≠ (vz33 : Value).ownBlock ∧ some k_ ≠ (vz60 : Value).ownBlock ∧ some k_ ≠ (vz77 : Value).ownBlock ∧ some k_ ≠ (vz80 : Value).ownBlock) vz63 yz62) := ⟨h3_⟩
      have n4_ : Aside0 (Kd.R k72 72 w110 w.heap.size (fun k_ => some k_ ≠ (.slice Ao84 xz15002_2.length co84 : Value).ownBlock ∧ some k_ ≠ (.slice Ao102 xz28002_2.length co102 : Value).ownBlock) (.slice Ao97 tz68.length co97) tz68) := ⟨h4_⟩
      have n5_ : Aside0 (Kd.R k74 74 w110 w.heap.size (fun k_ => some k_ ≠ (.slice Ao85 xz15003_2.length co85 : Value).ownBlock ∧ some k_ ≠ (.slice Ao103 xz28003_2.length co103 : Value).ownBlock) (.slice Ao99 tz71.length co99) tz71) := ⟨h5_⟩
      have n6_ : Aside0 (Kd.R (Kd.int .u8) 5 w110 w.heap.size (fun k_ => some k_ ≠ (vz29 : Value).ownBlock ∧ some k_ ≠ (vz33 : Value).ownBlock ∧ some k_ ≠ (vz60 : Value).ownBlock ∧ some k_ ≠ (vz63 : Value).ownBlock ∧ some k_ ≠ (vz80 : Value).ownBlock) vz77 yz76) := ⟨h6_⟩
      have n7_ : Aside0 (Kd.R (Kd.int .u8) 5 w110 w.heap.size (fun k_ => some k_ ≠ (vz29 : Value).ownBlock ∧ some k_ ≠ (vz33 : Value).ownBlock ∧ some k_ ≠ (vz60 : Value).ownBlock ∧ some k_ ≠ (vz63 : Value).ownBlock ∧ some k_ ≠ (vz77 : Value).ownBlock) vz80 yz79) := ⟨h7_⟩
      have n8_ : Aside0 (Kd.R k72 72 w110 w.heap.size (fun k_ => some k_ ≠ (.slice Ao97 tz68.length co97 : Value).ownBlock ∧ some k_ ≠ (.slice Ao102 xz28002_2.length co102 : Value).ownBlock) (.slice Ao84 xz15002_2.length co84) xz15002_2) := ⟨h8_⟩
      have n9_ : Aside0 (Kd.R k74 74 w110 w.heap.size (fun k_ => some k_ ≠ (.slice Ao99 tz71.length co99 : Value).ownBlock ∧ some k_ ≠ (.slice Ao103 xz28003_2.length co103 : Value).ownBlock) (.slice Ao85 xz15003_2.length co85) xz15003_2) := ⟨h9_⟩
      have n10_ : Aside0 (Kd.R k72 72 w110 w.heap.size (fun k_ => some k_ ≠ (.slice Ao97 tz68.length co97 : Value).ownBlock ∧ some k_ ≠ (.slice Ao84 xz15002_2.length co84 : Value).ownBlock) (.slice Ao102 xz28002_2.length co102) xz28002_2) := ⟨h10_⟩
      have n11_ : Aside0 (Kd.R k74 74 w110 w.heap.size (fun k_ => some k_ ≠ (.slice Ao99 tz71.length co99 : Value).ownBlock ∧ some k_ ≠ (.slice Ao85 xz15003_2.length co85 : Value).ownBlock) (.slice Ao103 xz28003_2.length co103) xz28003_2) := ⟨h11_⟩
      have n12_ : Aside0 (w110.heap[gbz14]? = some (.cells #[.string tz66, .int .i64 tz67, .slice Ao97 tz68.length co97, .slice Ao99 tz71.length co99, .bool tz74] 50 (0, 0))) := ⟨h12_⟩
      have n13_ : Aside0 (w110.heap[gbz27]? = some (.cells #[.string xz28000_2, .int .i64 xz28001_2, .slice Ao102 xz28002_2.length co102, .slice Ao103 xz28003_2.length co103, .bool xz28004_2] 50 (0, 0))) := ⟨h13_⟩
      have n14_ : Aside0 (Below w.heap.size w w110) := ⟨h14_⟩
      clear HO_z15002 HO_z15003 HO_z28002 HO_z28003 HOz30 HOz34 HOz61 HOz64 HOz70 HOz73 BKz14 BKz27 HB h0_ h1_ h2_ h3_ h4_ h5_ h6_ h7_ h8_ h9_ h10_ h11_ h12_ h13_ h14_; have HOz30 := n0_; have HOz34 := n1_; have HOz61 := n2_; have HOz64 := n3_; have HOz70 := n4_; have HOz73 := n5_; have HOz78 := n6_; have HOz81 := n7_; have HO_z15002 := n8_; have HO_z15003 := n9_; have HO_z28002 := n10_; have HO_z28003 := n11_; have BKz14 := n12_; have BKz27 := n13_; have HB := n14_; clear n0_ n1_ n2_ n3_ n4_ n5_ n6_ n7_ n8_ n9_ n10_ n11_ n12_ n13_ n14_
      have hHeld : w110.cell? ⟨gbz27, 0, none⟩ = some (.string xz28000_2) ∧ w110.cell? ⟨gbz27, 1, none⟩ = some (.int .i64 xz28001_2) ∧ w110.cell? ⟨gbz27, 2, none⟩ = some (.slice Ao102 xz28002_2.length co102) ∧ w110.cell? ⟨gbz27, 3, none⟩ = some (.slice Ao103 xz28003_2.length co103) ∧ w110.cell? ⟨gbz27, 4, none⟩ = some (.bool xz28004_2) := hS_
      refine norm_ (by simp only [putAll, Act.put, List.setIfInBounds_toArray, List.set_cons_zero, List.set_cons_succ]; rfl) ?_
      refine two_ (i := 2) (j := 7) (Ni := some 97) (Nj := some 102) #[true, true, true, true, false, true, true, false, false, false, false, false, false, false, false, false, false] #[true, true, false, true, false, true, true, true, false, false, false, false, false, false, false, false, false] rfl rfl rfl rfl (two_of HT_.out (by kernel_rfl)) (by decide) (by decide) (fun K hK => ?_) (fun K hK => ?_)
      ·skip
       have hcv111 := own_string (P := Try.prog) Try.underlying57 Try.underlying5 Try.underlying9 (Kd.own_of_R HOz78.out)
       refine value_ (w1 := ?_) (v := ?_) (by rfl) rfl ?_ ?_
       rotate_left 2
       ·go_simp
        constructor
        rotate_left
        ·rfl
        rfl
       clear hcv111
       refine hK.out _ _ (bc5 BKz27) (fun hHeld => ?_)
       clear hK K
       refine norm_ (by show Act.put _ (some 97) _ = _; simp only [Act.put, sa_, s0_, s1_, i64_w, i32_w]; rfl) ?_
       refine pu_ 4 (some 99) HT_ rfl rfl (by kernel_rfl) (fun _ _ _ h => h) (.inl ⟨by rfl, by intro w'; go_simp; with_reducible rfl⟩) (by simp only [Act.put, sa_, s0_, s1_, i64_w, i32_w]; rfl) ?_
       exact norm_ (by simp only [putAll, Act.put, sa_, s0_, s1_] <;> rfl) (hJ1_2_6 (vz77, vz80) _ ⟨hHeld, (pr HOz30), (pr HOz34), (pr HOz61), (pr HOz64), (pr HOz70), (pr HOz73), (pr HOz78), (pr HOz81), (pr HO_z15002), (pr HO_z15003), (pr HO_z28002), (pr HO_z28003), (pk BKz14), (pk BKz27), (by repeat (first | (with_reducible first | exact HB.out | apply below_alloc | apply pw_below_drewN | apply below_drew1 | refine below_set ?_ GEz14.out | refine below_set ?_ GEz27.out) | exact HB.out))⟩)
      skip
      have hcv111 := own_string (P := Try.prog) Try.underlying57 Try.underlying5 Try.underlying9 (Kd.own_of_R HOz81.out)
      refine value_ (w1 := ?_) (v := ?_) (by rfl) rfl ?_ ?_
      rotate_left 2
      ·go_simp
       constructor
       rotate_left
       ·rfl
       rfl
      clear hcv111
      refine hK.out _ _ (bc5 BKz27) (fun hHeld => ?_)
      clear hK K
      refine norm_ (by show Act.put _ (some 102) _ = _; simp only [Act.put, sa_, s0_, s1_, i64_w, i32_w]; rfl) ?_
      refine pu_ 8 (some 103) HT_ rfl rfl (by kernel_rfl) (fun _ _ _ h => h) (.inl ⟨by rfl, by intro w'; go_simp; with_reducible rfl⟩) (by simp only [Act.put, sa_, s0_, s1_, i64_w, i32_w]; rfl) ?_
      exact norm_ (by simp only [putAll, Act.put, sa_, s0_, s1_] <;> rfl) (hJ1_6_7 (vz77, vz80) _ ⟨hHeld, (pr HOz30), (pr HOz34), (pr HOz61), (pr HOz64), (pr HOz70), (pr HOz73), (pr HOz78), (pr HOz81), (pr HO_z15002), (pr HO_z15003), (pr HO_z28002), (pr HO_z28003), (pk BKz14), (pk BKz27), (by repeat (first | (with_reducible first | exact HB.out | apply below_alloc | apply pw_below_drewN | apply below_drew1 | refine below_set ?_ GEz14.out | refine below_set ?_ GEz27.out) | exact HB.out))⟩)
    ·skip
     rintro vz77 w109 ⟨hS_, h0_, h1_, h2_, h3_, h4_, h5_, h6_, h7_, h8_, h9_, h10_, h11_, h12_, h13_⟩
     have n0_ : Aside0 (Kd.R (Kd.int .u8) 5 w109 w.heap.size (fun k_ => some k_ ≠ (vz33 : Value).ownBlock ∧ some k_ ≠ (vz60 : Value).ownBlock ∧ some k_ ≠ (vz63 : Value).ownBlock ∧ some k_ ≠ (vz77 : Value).ownBlock) vz29 yz28) := ⟨h0_⟩
     have n1_ : Aside0 (Kd.R (Kd.int .u8) 5 w109 w.heap.size (fun k_ => some k_ ≠ (vz29 : Value).ownBlock ∧ some k_ ≠ (vz60 : Value).ownBlock ∧ some k_ ≠ (vz63 : Value).ownBlock ∧ some k_ ≠ (vz77 : Value).ownBlock) vz33 yz32) := ⟨h1_⟩
     have n2_ : Aside0 (Kd.R (Kd.int .u8) 5 w109 w.heap.size (fun k_ => some k_ ≠ (vz29 : Value).ownBlock ∧ some k_ ≠ (vz33 : Value).ownBlock ∧ some k_ ≠ (vz63 : Value).ownBlock ∧ some k_ ≠ (vz77 : Value).ownBlock) vz60 yz59) := ⟨h2_⟩
     have n3_ : Aside0 (Kd.R (Kd.int .u8) 5 w109 w.heap.size (fun k_ => some k_ ≠ (vz29 : Value).ownBlock ∧ some k_ ≠ (vz33 : Value).ownBlock ∧ some k_ ≠ (vz60 : Value).ownBlock ∧ some k_ ≠ (vz77 : Value).ownBlock) vz63 yz62) := ⟨h3_⟩
     have n4_ : Aside0 (Kd.R k72 72 w109 w.heap.size (fun k_ => some k_ ≠ (.slice Ao84 xz15002_2.length co84 : Value).ownBlock ∧ some k_ ≠ (.slice Ao102 xz28002_2.length co102 : Value).ownBlock) (.slice Ao97 tz68.length co97) tz68) := ⟨h4_⟩
     have n5_ : Aside0 (Kd.R k74 74 w109 w.heap.size (fun k_ => some k_ ≠ (.slice Ao85 xz15003_2.length co85 : Value).ownBlock ∧ some k_ ≠ (.slice Ao103 xz28003_2.length co103 : Value).ownBlock) (.slice Ao99 tz71.length co99) tz71) := ⟨h5_⟩
     have n6_ : Aside0 (Kd.R (Kd.int .u8) 5 w109 w.heap.size (fun k_ => some k_ ≠ (vz29 : Value).ownBlock ∧ some k_ ≠ (vz33 : Value).ownBlock ∧ some k_ ≠ (vz60 : Value).ownBlock ∧ some k_ ≠ (vz63 : Value).ownBlock) vz77 yz76) := ⟨h6_⟩
     have n7_ : Aside0 (Kd.R k72 72 w109 w.heap.size (fun k_ => some k_ ≠ (.slice Ao97 tz68.length co97 : Value).ownBlock ∧ some k_ ≠ (.slice Ao102 xz28002_2.length co102 : Value).ownBlock) (.slice Ao84 xz15002_2.length co84) xz15002_2) := ⟨h7_⟩
     have n8_ : Aside0 (Kd.R k74 74 w109 w.heap.size (fun k_ => some k_ ≠ (.slice Ao99 tz71.length co99 : Value).ownBlock ∧ some k_ ≠ (.slice Ao103 xz28003_2.length co103 : Value).ownBlock) (.slice Ao85 xz15003_2.length co85) xz15003_2) := ⟨h8_⟩
     have n9_ : Aside0 (Kd.R k72 72 w109 w.heap.size (fun k_ => some k_ ≠ (.slice Ao97 tz68.length co97 : Value).ownBlock ∧ some k_ ≠ (.slice Ao84 xz15002_2.length co84 : Value).ownBlock) (.slice Ao102 xz28002_2.length co102) xz28002_2) := ⟨h9_⟩
     have n10_ : Aside0 (Kd.R k74 74 w109 w.heap.size (fun k_ => some k_ ≠ (.slice Ao99 tz71.length co99 : Value).ownBlock ∧ some k_ ≠ (.slice Ao85 xz15003_2.length co85 : Value).ownBlock) (.slice Ao103 xz28003_2.length co103) xz28003_2) := ⟨h10_⟩
     have n11_ : Aside0 (w109.heap[gbz14]? = some (.cells #[.string tz66, .int .i64 tz67, .slice Ao97 tz68.length co97, .slice Ao99 tz71.length co99, .bool tz74] 50 (0, 0))) := ⟨h11_⟩
     have n12_ : Aside0 (w109.heap[gbz27]? = some (.cells #[.string xz28000_2, .int .i64 xz28001_2, .slice Ao102 xz28002_2.length co102, .slice Ao103 xz28003_2.length co103, .bool xz28004_2] 50 (0, 0))) := ⟨h12_⟩
     have n13_ : Aside0 (Below w.heap.size w w109) := ⟨h13_⟩
     clear HO_z15002 HO_z15003 HO_z28002 HO_z28003 HOz30 HOz34 HOz61 HOz64 HOz70 HOz73 BKz14 BKz27 HB h0_ h1_ h2_ h3_ h4_ h5_ h6_ h7_ h8_ h9_ h10_ h11_ h12_ h13_; have HOz30 := n0_; have HOz34 := n1_; have HOz61 := n2_; have HOz64 := n3_; have HOz70 := n4_; have HOz73 := n5_; have HOz78 := n6_; have HO_z15002 := n7_; have HO_z15003 := n8_; have HO_z28002 := n9_; have HO_z28003 := n10_; have BKz14 := n11_; have BKz27 := n12_; have HB := n13_; clear n0_ n1_ n2_ n3_ n4_ n5_ n6_ n7_ n8_ n9_ n10_ n11_ n12_ n13_
     have hHeld : w109.cell? ⟨gbz27, 0, none⟩ = some (.string xz28000_2) ∧ w109.cell? ⟨gbz27, 1, none⟩ = some (.int .i64 xz28001_2) ∧ w109.cell? ⟨gbz27, 2, none⟩ = some (.slice Ao102 xz28002_2.length co102) ∧ w109.cell? ⟨gbz27, 3, none⟩ = some (.slice Ao103 xz28003_2.length co103) ∧ w109.cell? ⟨gbz27, 4, none⟩ = some (.bool xz28004_2) := hS_
     refine norm_ (by simp only [putAll, Act.put, List.setIfInBounds_toArray, List.set_cons_zero, List.set_cons_succ]; rfl) ?_
     refine on_ 6 (some 101) HT_ rfl rfl (by kernel_rfl) (by decide) (fun K hK => ?_)
     refine Kd.R_make_step (Kd.int .u8) _ 5 (by rfl) (N := 101) rfl 57 _ _ rfl 23 rfl rfl Try.underlying57 (.int .u8 0) 1 info5 rfl (by decide) (by omega) 0 (ok := fun _ => True) (okp := fun _ => True) rfl (fun _ hk => hk) trivial (by omega) (by omega) (Below.refl _ _) (Nat.le_refl _) ?_
     intro vz80 w110 ho111 hb hg_ hnew_
     clear hg_ hnew_
     (first | rw [← Nyz79.out] at ho111 | (simp only [Int.reduceToNat] at ho111; rw [← Nyz79.out] at ho111))
     have n0_ := am (Kd.R_below (pr HO_z15002) hb)
     have n1_ := am (Kd.R_below (pr HO_z15003) hb)
     have n2_ := am (Kd.R_below (pr HO_z28002) hb)
     have n3_ := am (Kd.R_below (pr HO_z28003) hb)
     have n4_ := am (Kd.R_elder' (pr HOz30) (Kd.R_base ho111) hb)
     have n5_ := am (Kd.R_elder' (pr HOz34) (Kd.R_base ho111) hb)
     have n6_ := am (Kd.R_elder' (pr HOz61) (Kd.R_base ho111) hb)
     have n7_ := am (Kd.R_elder' (pr HOz64) (Kd.R_base ho111) hb)
     have n8_ := am (Kd.R_below (pr HOz70) hb)
     have n9_ := am (Kd.R_below (pr HOz73) hb)
     have n10_ := am (Kd.R_elder' (pr HOz78) (Kd.R_base ho111) hb)
     have n11_ := am (Kd.R_lower (Kd.R_new' (Kd.R_new' (Kd.R_new' (Kd.R_new' (Kd.R_new' ho111 (Kd.R_lt (pr HOz30))) (Kd.R_lt (pr HOz34))) (Kd.R_lt (pr HOz61))) (Kd.R_lt (pr HOz64))) (Kd.R_lt (pr HOz78))) (below_size (by repeat (first | (with_reducible first | exact HB.out | apply below_alloc | apply pw_below_drewN | apply below_drew1 | refine below_set ?_ GEz14.out | refine below_set ?_ GEz27.out) | exact HB.out))))
     have n12_ := am (blk_below (pk BKz14) hb)
     have n13_ := am (blk_below (pk BKz27) hb)
     have n14_ := am (below_step (by repeat (first | (with_reducible first | exact HB.out | apply below_alloc | apply pw_below_drewN | apply below_drew1 | refine below_set ?_ GEz14.out | refine below_set ?_ GEz27.out) | exact HB.out)) hb)
     clear HO_z15002 HO_z15003 HO_z28002 HO_z28003 HOz30 HOz34 HOz61 HOz64 HOz70 HOz73 HOz78 BKz14 BKz27 HB; have HO_z15002 := n0_; have HO_z15003 := n1_; have HO_z28002 := n2_; have HO_z28003 := n3_; have HOz30 := n4_; have HOz34 := n5_; have HOz61 := n6_; have HOz64 := n7_; have HOz70 := n8_; have HOz73 := n9_; have HOz78 := n10_; have HOz81 := n11_; have BKz14 := n12_; have BKz27 := n13_; have HB := n14_; clear n0_ n1_ n2_ n3_ n4_ n5_ n6_ n7_ n8_ n9_ n10_ n11_ n12_ n13_ n14_; clear hb ho111
     refine hK.out _ _ (bc5 BKz27) (fun hHeld => ?_)
     clear hK K
     refine norm_ (by show Act.put _ (some 101) _ = _; simp only [Act.put, sa_, s0_, s1_, i64_w, i32_w]; rfl) ?_
     exact norm_ (by simp only [putAll, Act.put, sa_, s0_, s1_] <;> rfl) (hJ1_2_6 (vz77, vz80) _ ⟨hHeld, (pm HOz30 (fun _ hk => ⟨hk.1.1, ⟨hk.1.2.1, ⟨hk.1.2.2.1, ⟨hk.1.2.2.2, hk.2⟩⟩⟩⟩)), (pm HOz34 (fun _ hk => ⟨hk.1.1, ⟨hk.1.2.1, ⟨hk.1.2.2.1, ⟨hk.1.2.2.2, hk.2⟩⟩⟩⟩)), (pm HOz61 (fun _ hk => ⟨hk.1.1, ⟨hk.1.2.1, ⟨hk.1.2.2.1, ⟨hk.1.2.2.2, hk.2⟩⟩⟩⟩)), (pm HOz64 (fun _ hk => ⟨hk.1.1, ⟨hk.1.2.1, ⟨hk.1.2.2.1, ⟨hk.1.2.2.2, hk.2⟩⟩⟩⟩)), (pr HOz70), (pr HOz73), (pm HOz78 (fun _ hk => ⟨hk.1.1, ⟨hk.1.2.1, ⟨hk.1.2.2.1, ⟨hk.1.2.2.2, hk.2⟩⟩⟩⟩)), (pm HOz81 (fun _ hk => ⟨hk.1.1.1.1.2, ⟨hk.1.1.1.2, ⟨hk.1.1.2, ⟨hk.1.2, hk.2⟩⟩⟩⟩)), (pr HO_z15002), (pr HO_z15003), (pr HO_z28002), (pr HO_z28003), (pk BKz14), (pk BKz27), (by repeat (first | (with_reducible first | exact HB.out | apply below_alloc | apply pw_below_drewN | apply below_drew1 | refine below_set ?_ GEz14.out | refine below_set ?_ GEz27.out) | exact HB.out))⟩)
   ·skip
    rintro ⟨vz77, vz80⟩ w111 ⟨hS_, h0_, h1_, h2_, h3_, h4_, h5_, h6_, h7_, h8_, h9_, h10_, h11_, h12_, h13_, h14_⟩
    have n0_ : Aside0 (Kd.R (Kd.int .u8) 5 w111 w.heap.size (fun k_ => some k_ ≠ (vz33 : Value).ownBlock ∧ some k_ ≠ (vz60 : Value).ownBlock ∧ some k_ ≠ (vz63 : Value).ownBlock ∧ some k_ ≠ (vz77 : Value).ownBlock ∧ some k_ ≠ (vz80 : Value).ownBlock) vz29 yz28) := ⟨h0_⟩
    have n1_ : Aside0 (Kd.R (Kd.int .u8) 5 w111 w.heap.size (fun k_ => some k_ ≠ (vz29 : Value).ownBlock ∧ some k_ ≠ (vz60 : Value).ownBlock ∧ some k_ ≠ (vz63 : Value).ownBlock ∧ some k_ ≠ (vz77 : Value).ownBlock ∧ some k_ ≠ (vz80 : Value).ownBlock) vz33 yz32) := ⟨h1_⟩
    have n2_ : Aside0 (Kd.R (Kd.int .u8) 5 w111 w.heap.size (fun k_ => some k_ ≠ (vz29 : Value).ownBlock ∧ some k_ ≠ (vz33 : Value).ownBlock ∧ some k_ ≠ (vz63 : Value).ownBlock ∧ some k_ ≠ (vz77 : Value).ownBlock ∧ some k_ ≠ (vz80 : Value).ownBlock) vz60 yz59) := ⟨h2_⟩
    have n3_ : Aside0 (Kd.R (Kd.int .u8) 5 w111 w.heap.size (fun k_ => some k_ ≠ (vz29 : Value).ownBlock ∧ some k_ ≠ (vz33 : Value).ownBlock ∧ some k_ ≠ (vz60 : Value).ownBlock ∧ some k_ ≠ (vz77 : Value).ownBlock ∧ some k_ ≠ (vz80 : Value).ownBlock) vz63 yz62) := ⟨h3_⟩
    have n4_ : Aside0 (Kd.R k72 72 w111 w.heap.size (fun k_ => some k_ ≠ (.slice Ao84 xz15002_2.length co84 : Value).ownBlock ∧ some k_ ≠ (.slice Ao102 xz28002_2.length co102 : Value).ownBlock) (.slice Ao97 tz68.length co97) tz68) := ⟨h4_⟩
    have n5_ : Aside0 (Kd.R k74 74 w111 w.heap.size (fun k_ => some k_ ≠ (.slice Ao85 xz15003_2.length co85 : Value).ownBlock ∧ some k_ ≠ (.slice Ao103 xz28003_2.length co103 : Value).ownBlock) (.slice Ao99 tz71.length co99) tz71) := ⟨h5_⟩
    have n6_ : Aside0 (Kd.R (Kd.int .u8) 5 w111 w.heap.size (fun k_ => some k_ ≠ (vz29 : Value).ownBlock ∧ some k_ ≠ (vz33 : Value).ownBlock ∧ some k_ ≠ (vz60 : Value).ownBlock ∧ some k_ ≠ (vz63 : Value).ownBlock ∧ some k_ ≠ (vz80 : Value).ownBlock) vz77 yz76) := ⟨h6_⟩
    have n7_ : Aside0 (Kd.R (Kd.int .u8) 5 w111 w.heap.size (fun k_ => some k_ ≠ (vz29 : Value).ownBlock ∧ some k_ ≠ (vz33 : Value).ownBlock ∧ some k_ ≠ (vz60 : Value).ownBlock ∧ some k_ ≠ (vz63 : Value).ownBlock ∧ some k_ ≠ (vz77 : Value).ownBlock) vz80 yz79) := ⟨h7_⟩
    have n8_ : Aside0 (Kd.R k72 72 w111 w.heap.size (fun k_ => some k_ ≠ (.slice Ao97 tz68.length co97 : Value).ownBlock ∧ some k_ ≠ (.slice Ao102 xz28002_2.length co102 : Value).ownBlock) (.slice Ao84 xz15002_2.length co84) xz15002_2) := ⟨h8_⟩
    have n9_ : Aside0 (Kd.R k74 74 w111 w.heap.size (fun k_ => some k_ ≠ (.slice Ao99 tz71.length co99 : Value).ownBlock ∧ some k_ ≠ (.slice Ao103 xz28003_2.length co103 : Value).ownBlock) (.slice Ao85 xz15003_2.length co85) xz15003_2) := ⟨h9_⟩
    have n10_ : Aside0 (Kd.R k72 72 w111 w.heap.size (fun k_ => some k_ ≠ (.slice Ao97 tz68.length co97 : Value).ownBlock ∧ some k_ ≠ (.slice Ao84 xz15002_2.length co84 : Value).ownBlock) (.slice Ao102 xz28002_2.length co102) xz28002_2) := ⟨h10_⟩
    have n11_ : Aside0 (Kd.R k74 74 w111 w.heap.size (fun k_ => some k_ ≠ (.slice Ao99 tz71.length co99 : Value).ownBlock ∧ some k_ ≠ (.slice Ao85 xz15003_2.length co85 : Value).ownBlock) (.slice Ao103 xz28003_2.length co103) xz28003_2) := ⟨h11_⟩
    have n12_ : Aside0 (w111.heap[gbz14]? = some (.cells #[.string tz66, .int .i64 tz67, .slice Ao97 tz68.length co97, .slice Ao99 tz71.length co99, .bool tz74] 50 (0, 0))) := ⟨h12_⟩
    have n13_ : Aside0 (w111.heap[gbz27]? = some (.cells #[.string xz28000_2, .int .i64 xz28001_2, .slice Ao102 xz28002_2.length co102, .slice Ao103 xz28003_2.length co103, .bool xz28004_2] 50 (0, 0))) := ⟨h13_⟩
    have n14_ : Aside0 (Below w.heap.size w w111) := ⟨h14_⟩
    clear HO_z15002 HO_z15003 HO_z28002 HO_z28003 HOz30 HOz34 HOz61 HOz64 HOz70 HOz73 BKz14 BKz27 HB h0_ h1_ h2_ h3_ h4_ h5_ h6_ h7_ h8_ h9_ h10_ h11_ h12_ h13_ h14_; have HOz30 := n0_; have HOz34 := n1_; have HOz61 := n2_; have HOz64 := n3_; have HOz70 := n4_; have HOz73 := n5_; have HOz78 := n6_; have HOz81 := n7_; have HO_z15002 := n8_; have HO_z15003 := n9_; have HO_z28002 := n10_; have HO_z28003 := n11_; have BKz14 := n12_; have BKz27 := n13_; have HB := n14_; clear n0_ n1_ n2_ n3_ n4_ n5_ n6_ n7_ n8_ n9_ n10_ n11_ n12_ n13_ n14_
    have hHeld : w111.cell? ⟨gbz27, 0, none⟩ = some (.string xz28000_2) ∧ w111.cell? ⟨gbz27, 1, none⟩ = some (.int .i64 xz28001_2) ∧ w111.cell? ⟨gbz27, 2, none⟩ = some (.slice Ao102 xz28002_2.length co102) ∧ w111.cell? ⟨gbz27, 3, none⟩ = some (.slice Ao103 xz28003_2.length co103) ∧ w111.cell? ⟨gbz27, 4, none⟩ = some (.bool xz28004_2) := hS_
    refine norm_ (by simp only [putAll, Act.put, List.setIfInBounds_toArray, List.set_cons_zero, List.set_cons_succ]; rfl) ?_
    refine on_ 2 (some 97) HT_ rfl rfl (by kernel_rfl) (by decide) (fun K hK => ?_)
    have hcv112 := own_string (P := Try.prog) Try.underlying57 Try.underlying5 Try.underlying9 (Kd.own_of_R HOz78.out)
    refine value_ (w1 := ?_) (v := ?_) (by rfl) rfl ?_ ?_
    rotate_left 2
    ·go_simp
     constructor
     rotate_left
     ·rfl
     rfl
    clear hcv112
    refine hK.out _ _ (bc5 BKz27) (fun hHeld => ?_)
    clear hK K
    refine norm_ (by show Act.put _ (some 97) _ = _; simp only [Act.put, sa_, s0_, s1_, i64_w, i32_w]; rfl) ?_
    refine pu_ 4 (some 99) HT_ rfl rfl (by kernel_rfl) (fun _ _ _ h => h) (.inl ⟨by rfl, by intro w'; go_simp; with_reducible rfl⟩) (by simp only [Act.put, sa_, s0_, s1_, i64_w, i32_w]; rfl) ?_
    exact norm_ (by simp only [putAll, Act.put, sa_, s0_, s1_] <;> rfl) (hJ1_2_6_7 (vz77, vz80) _ ⟨hHeld, (pr HOz30), (pr HOz34), (pr HOz61), (pr HOz64), (pr HOz70), (pr HOz73), (pr HOz78), (pr HOz81), (pr HO_z15002), (pr HO_z15003), (pr HO_z28002), (pr HO_z28003), (pk BKz14), (pk BKz27), (by repeat (first | (with_reducible first | exact HB.out | apply below_alloc | apply pw_below_drewN | apply below_drew1 | refine below_set ?_ GEz14.out | refine below_set ?_ GEz27.out) | exact HB.out))⟩)
  ·skip
   rintro ⟨vz77, vz80⟩ w111 ⟨hS_, h0_, h1_, h2_, h3_, h4_, h5_, h6_, h7_, h8_, h9_, h10_, h11_, h12_, h13_, h14_⟩
   have n0_ : Aside0 (Kd.R (Kd.int .u8) 5 w111 w.heap.size (fun k_ => some k_ ≠ (vz33 : Value).ownBlock ∧ some k_ ≠ (vz60 : Value).ownBlock ∧ some k_ ≠ (vz63 : Value).ownBlock ∧ some k_ ≠ (vz77 : Value).ownBlock ∧ some k_ ≠ (vz80 : Value).ownBlock) vz29 yz28) := ⟨h0_⟩
   have n1_ : Aside0 (Kd.R (Kd.int .u8) 5 w111 w.heap.size (fun k_ => some k_ ≠ (vz29 : Value).ownBlock ∧ some k_ ≠ (vz60 : Value).ownBlock ∧ some k_ ≠ (vz63 : Value).ownBlock ∧ some k_ ≠ (vz77 : Value).ownBlock ∧ some k_ ≠ (vz80 : Value).ownBlock) vz33 yz32) := ⟨h1_⟩
   have n2_ : Aside0 (Kd.R (Kd.int .u8) 5 w111 w.heap.size (fun k_ => some k_ ≠ (vz29 : Value).ownBlock ∧ some k_ ≠ (vz33 : Value).ownBlock ∧ some k_ ≠ (vz63 : Value).ownBlock ∧ some k_ ≠ (vz77 : Value).ownBlock ∧ some k_ ≠ (vz80 : Value).ownBlock) vz60 yz59) := ⟨h2_⟩
   have n3_ : Aside0 (Kd.R (Kd.int .u8) 5 w111 w.heap.size (fun k_ => some k_ ≠ (vz29 : Value).ownBlock ∧ some k_ ≠ (vz33 : Value).ownBlock ∧ some k_ ≠ (vz60 : Value).ownBlock ∧ some k_ ≠ (vz77 : Value).ownBlock ∧ some k_ ≠ (vz80 : Value).ownBlock) vz63 yz62) := ⟨h3_⟩
   have n4_ : Aside0 (Kd.R k72 72 w111 w.heap.size (fun k_ => some k_ ≠ (.slice Ao84 xz15002_2.length co84 : Value).ownBlock ∧ some k_ ≠ (.slice Ao102 xz28002_2.length co102 : Value).ownBlock) (.slice Ao97 tz68.length co97) tz68) := ⟨h4_⟩
   have n5_ : Aside0 (Kd.R k74 74 w111 w.heap.size (fun k_ => some k_ ≠ (.slice Ao85 xz15003_2.length co85 : Value).ownBlock ∧ some k_ ≠ (.slice Ao103 xz28003_2.length co103 : Value).ownBlock) (.slice Ao99 tz71.length co99) tz71) := ⟨h5_⟩
   have n6_ : Aside0 (Kd.R (Kd.int .u8) 5 w111 w.heap.size (fun k_ => some k_ ≠ (vz29 : Value).ownBlock ∧ some k_ ≠ (vz33 : Value).ownBlock ∧ some k_ ≠ (vz60 : Value).ownBlock ∧ some k_ ≠ (vz63 : Value).ownBlock ∧ some k_ ≠ (vz80 : Value).ownBlock) vz77 yz76) := ⟨h6_⟩
   have n7_ : Aside0 (Kd.R (Kd.int .u8) 5 w111 w.heap.size (fun k_ => some k_ ≠ (vz29 : Value).ownBlock ∧ some k_ ≠ (vz33 : Value).ownBlock ∧ some k_ ≠ (vz60 : Value).ownBlock ∧ some k_ ≠ (vz63 : Value).ownBlock ∧ some k_ ≠ (vz77 : Value).ownBlock) vz80 yz79) := ⟨h7_⟩
   have n8_ : Aside0 (Kd.R k72 72 w111 w.heap.size (fun k_ => some k_ ≠ (.slice Ao97 tz68.length co97 : Value).ownBlock ∧ some k_ ≠ (.slice Ao102 xz28002_2.length co102 : Value).ownBlock) (.slice Ao84 xz15002_2.length co84) xz15002_2) := ⟨h8_⟩
   have n9_ : Aside0 (Kd.R k74 74 w111 w.heap.size (fun k_ => some k_ ≠ (.slice Ao99 tz71.length co99 : Value).ownBlock ∧ some k_ ≠ (.slice Ao103 xz28003_2.length co103 : Value).ownBlock) (.slice Ao85 xz15003_2.length co85) xz15003_2) := ⟨h9_⟩
   have n10_ : Aside0 (Kd.R k72 72 w111 w.heap.size (fun k_ => some k_ ≠ (.slice Ao97 tz68.length co97 : Value).ownBlock ∧ some k_ ≠ (.slice Ao84 xz15002_2.length co84 : Value).ownBlock) (.slice Ao102 xz28002_2.length co102) xz28002_2) := ⟨h10_⟩
   have n11_ : Aside0 (Kd.R k74 74 w111 w.heap.size (fun k_ => some k_ ≠ (.slice Ao99 tz71.length co99 : Value).ownBlock ∧ some k_ ≠ (.slice Ao85 xz15003_2.length co85 : Value).ownBlock) (.slice Ao103 xz28003_2.length co103) xz28003_2) := ⟨h11_⟩
   have n12_ : Aside0 (w111.heap[gbz14]? = some (.cells #[.string tz66, .int .i64 tz67, .slice Ao97 tz68.length co97, .slice Ao99 tz71.length co99, .bool tz74] 50 (0, 0))) := ⟨h12_⟩
   have n13_ : Aside0 (w111.heap[gbz27]? = some (.cells #[.string xz28000_2, .int .i64 xz28001_2, .slice Ao102 xz28002_2.length co102, .slice Ao103 xz28003_2.length co103, .bool xz28004_2] 50 (0, 0))) := ⟨h13_⟩
   have n14_ : Aside0 (Below w.heap.size w w111) := ⟨h14_⟩
   clear HO_z15002 HO_z15003 HO_z28002 HO_z28003 HOz30 HOz34 HOz61 HOz64 HOz70 HOz73 BKz14 BKz27 HB h0_ h1_ h2_ h3_ h4_ h5_ h6_ h7_ h8_ h9_ h10_ h11_ h12_ h13_ h14_; have HOz30 := n0_; have HOz34 := n1_; have HOz61 := n2_; have HOz64 := n3_; have HOz70 := n4_; have HOz73 := n5_; have HOz78 := n6_; have HOz81 := n7_; have HO_z15002 := n8_; have HO_z15003 := n9_; have HO_z28002 := n10_; have HO_z28003 := n11_; have BKz14 := n12_; have BKz27 := n13_; have HB := n14_; clear n0_ n1_ n2_ n3_ n4_ n5_ n6_ n7_ n8_ n9_ n10_ n11_ n12_ n13_ n14_
   have hHeld : w111.cell? ⟨gbz27, 0, none⟩ = some (.string xz28000_2) ∧ w111.cell? ⟨gbz27, 1, none⟩ = some (.int .i64 xz28001_2) ∧ w111.cell? ⟨gbz27, 2, none⟩ = some (.slice Ao102 xz28002_2.length co102) ∧ w111.cell? ⟨gbz27, 3, none⟩ = some (.slice Ao103 xz28003_2.length co103) ∧ w111.cell? ⟨gbz27, 4, none⟩ = some (.bool xz28004_2) := hS_
   refine norm_ (by simp only [putAll, Act.put, List.setIfInBounds_toArray, List.set_cons_zero, List.set_cons_succ]; rfl) ?_
   refine on_ 7 (some 102) HT_ rfl rfl (by kernel_rfl) (by decide) (fun K hK => ?_)
   have hcv112 := own_string (P := Try.prog) Try.underlying57 Try.underlying5 Try.underlying9 (Kd.own_of_R HOz81.out)
   refine value_ (w1 := ?_) (v := ?_) (by rfl) rfl ?_ ?_
   rotate_left 2
   ·go_simp
    constructor
    rotate_left
    ·rfl
    rfl
   clear hcv112
   refine hK.out _ _ (bc5 BKz27) (fun hHeld => ?_)
   clear hK K
   refine norm_ (by show Act.put _ (some 102) _ = _; simp only [Act.put, sa_, s0_, s1_, i64_w, i32_w]; rfl) ?_
   refine pu_ 8 (some 103) HT_ rfl rfl (by kernel_rfl) (fun _ _ _ h => h) (.inl ⟨by rfl, by intro w'; go_simp; with_reducible rfl⟩) (by simp only [Act.put, sa_, s0_, s1_, i64_w, i32_w]; rfl) ?_
   exact norm_ (by simp only [putAll, Act.put, sa_, s0_, s1_] <;> rfl) (hJ1_2_6_7 (vz77, vz80) _ ⟨hHeld, (pr HOz30), (pr HOz34), (pr HOz61), (pr HOz64), (pr HOz70), (pr HOz73), (pr HOz78), (pr HOz81), (pr HO_z15002), (pr HO_z15003), (pr HO_z28002), (pr HO_z28003), (pk BKz14), (pk BKz27), (by repeat (first | (with_reducible first | exact HB.out | apply below_alloc | apply pw_below_drewN | apply below_drew1 | refine below_set ?_ GEz14.out | refine below_set ?_ GEz27.out) | exact HB.out))⟩)
 rintro ⟨vz77, vz80⟩ w112 ⟨hS_, h0_, h1_, h2_, h3_, h4_, h5_, h6_, h7_, h8_, h9_, h10_, h11_, h12_, h13_, h14_⟩
 have n0_ : Aside0 (Kd.R (Kd.int .u8) 5 w112 w.heap.size (fun k_ => some k_ ≠ (vz33 : Value).ownBlock ∧ some k_ ≠ (vz60 : Value).ownBlock ∧ some k_ ≠ (vz63 : Value).ownBlock ∧ some k_ ≠ (vz77 : Value).ownBlock ∧ some k_ ≠ (vz80 : Value).ownBlock) vz29 yz28) := ⟨h0_⟩
 have n1_ : Aside0 (Kd.R (Kd.int .u8) 5 w112 w.heap.size (fun k_ => some k_ ≠ (vz29 : Value).ownBlock ∧ some k_ ≠ (vz60 : Value).ownBlock ∧ some k_ ≠ (vz63 : Value).ownBlock ∧ some k_ ≠ (vz77 : Value).ownBlock ∧ some k_ ≠ (vz80 : Value).ownBlock) vz33 yz32) := ⟨h1_⟩
 have n2_ : Aside0 (Kd.R (Kd.int .u8) 5 w112 w.heap.size (fun k_ => some k_ ≠ (vz29 : Value).ownBlock ∧ some k_ ≠ (vz33 : Value).ownBlock ∧ some k_ ≠ (vz63 : Value).ownBlock ∧ some k_ ≠ (vz77 : Value).ownBlock ∧ some k_ ≠ (vz80 : Value).ownBlock) vz60 yz59) := ⟨h2_⟩
 have n3_ : Aside0 (Kd.R (Kd.int .u8) 5 w112 w.heap.size (fun k_ => some k_ ≠ (vz29 : Value).ownBlock ∧ some k_ ≠ (vz33 : Value).ownBlock ∧ some k_ ≠ (vz60 : Value).ownBlock ∧ some k_ ≠ (vz77 : Value).ownBlock ∧ some k_ ≠ (vz80 : Value).ownBlock) vz63 yz62) := ⟨h3_⟩
 have n4_ : Aside0 (Kd.R k72 72 w112 w.heap.size (fun k_ => some k_ ≠ (.slice Ao84 xz15002_2.length co84 : Value).ownBlock ∧ some k_ ≠ (.slice Ao102 xz28002_2.length co102 : Value).ownBlock) (.slice Ao97 tz68.length co97) tz68) := ⟨h4_⟩
 have n5_ : Aside0 (Kd.R k74 74 w112 w.heap.size (fun k_ => some k_ ≠ (.slice Ao85 xz15003_2.length co85 : Value).ownBlock ∧ some k_ ≠ (.slice Ao103 xz28003_2.length co103 : Value).ownBlock) (.slice Ao99 tz71.length co99) tz71) := ⟨h5_⟩
 have n6_ : Aside0 (Kd.R (Kd.int .u8) 5 w112 w.heap.size (fun k_ => some k_ ≠ (vz29 : Value).ownBlock ∧ some k_ ≠ (vz33 : Value).ownBlock ∧ some k_ ≠ (vz60 : Value).ownBlock ∧ some k_ ≠ (vz63 : Value).ownBlock ∧ some k_ ≠ (vz80 : Value).ownBlock) vz77 yz76) := ⟨h6_⟩
 have n7_ : Aside0 (Kd.R (Kd.int .u8) 5 w112 w.heap.size (fun k_ => some k_ ≠ (vz29 : Value).ownBlock ∧ some k_ ≠ (vz33 : Value).ownBlock ∧ some k_ ≠ (vz60 : Value).ownBlock ∧ some k_ ≠ (vz63 : Value).ownBlock ∧ some k_ ≠ (vz77 : Value).ownBlock) vz80 yz79) := ⟨h7_⟩
 have n8_ : Aside0 (Kd.R k72 72 w112 w.heap.size (fun k_ => some k_ ≠ (.slice Ao97 tz68.length co97 : Value).ownBlock ∧ some k_ ≠ (.slice Ao102 xz28002_2.length co102 : Value).ownBlock) (.slice Ao84 xz15002_2.length co84) xz15002_2) := ⟨h8_⟩
 have n9_ : Aside0 (Kd.R k74 74 w112 w.heap.size (fun k_ => some k_ ≠ (.slice Ao99 tz71.length co99 : Value).ownBlock ∧ some k_ ≠ (.slice Ao103 xz28003_2.length co103 : Value).ownBlock) (.slice Ao85 xz15003_2.length co85) xz15003_2) := ⟨h9_⟩
 have n10_ : Aside0 (Kd.R k72 72 w112 w.heap.size (fun k_ => some k_ ≠ (.slice Ao97 tz68.length co97 : Value).ownBlock ∧ some k_ ≠ (.slice Ao84 xz15002_2.length co84 : Value).ownBlock) (.slice Ao102 xz28002_2.length co102) xz28002_2) := ⟨h10_⟩
 have n11_ : Aside0 (Kd.R k74 74 w112 w.heap.size (fun k_ => some k_ ≠ (.slice Ao99 tz71.length co99 : Value).ownBlock ∧ some k_ ≠ (.slice Ao85 xz15003_2.length co85 : Value).ownBlock) (.slice Ao103 xz28003_2.length co103) xz28003_2) := ⟨h11_⟩
 have n12_ : Aside0 (w112.heap[gbz14]? = some (.cells #[.string tz66, .int .i64 tz67, .slice Ao97 tz68.length co97, .slice Ao99 tz71.length co99, .bool tz74] 50 (0, 0))) := ⟨h12_⟩
 have n13_ : Aside0 (w112.heap[gbz27]? = some (.cells #[.string xz28000_2, .int .i64 xz28001_2, .slice Ao102 xz28002_2.length co102, .slice Ao103 xz28003_2.length co103, .bool xz28004_2] 50 (0, 0))) := ⟨h13_⟩
 have n14_ : Aside0 (Below w.heap.size w w112) := ⟨h14_⟩
 clear HO_z15002 HO_z15003 HO_z28002 HO_z28003 HOz30 HOz34 HOz61 HOz64 HOz70 HOz73 BKz14 BKz27 HB h0_ h1_ h2_ h3_ h4_ h5_ h6_ h7_ h8_ h9_ h10_ h11_ h12_ h13_ h14_; have HOz30 := n0_; have HOz34 := n1_; have HOz61 := n2_; have HOz64 := n3_; have HOz70 := n4_; have HOz73 := n5_; have HOz78 := n6_; have HOz81 := n7_; have HO_z15002 := n8_; have HO_z15003 := n9_; have HO_z28002 := n10_; have HO_z28003 := n11_; have BKz14 := n12_; have BKz27 := n13_; have HB := n14_; clear n0_ n1_ n2_ n3_ n4_ n5_ n6_ n7_ n8_ n9_ n10_ n11_ n12_ n13_ n14_
 have hHeld : w112.cell? ⟨gbz27, 0, none⟩ = some (.string xz28000_2) ∧ w112.cell? ⟨gbz27, 1, none⟩ = some (.int .i64 xz28001_2) ∧ w112.cell? ⟨gbz27, 2, none⟩ = some (.slice Ao102 xz28002_2.length co102) ∧ w112.cell? ⟨gbz27, 3, none⟩ = some (.slice Ao103 xz28003_2.length co103) ∧ w112.cell? ⟨gbz27, 4, none⟩ = some (.bool xz28004_2) := hS_
 refine norm_ (by simp only [putAll, Act.put, List.setIfInBounds_toArray, List.set_cons_zero, List.set_cons_succ]; rfl) ?_
 refine on_ 9 (some 104) HT_ rfl rfl (by kernel_rfl) (by decide) (fun K hK => ?_)
 refine goes_ Try.func41 (by kernel_rfl) rfl #[.agg #[.string xz28000_2, .int .i64 xz28001_2, .slice Ao102 xz28002_2.length co102, .slice Ao103 xz28003_2.length co103, .bool xz28004_2], .string sx69, .string sx72] (by rfl) rfl rfl (by (try simp only [List.map_toArray, List.map_cons, List.map_nil]); first | done | rfl | (simp only [List.length_drop, List.length_take]; rfl)) ?_
 with_reducible refine (ideal_Seal.calls kj26 xz28000_2 xz28001_2 _ _ xz28002_2 _ _ xz28003_2 xz28004_2 sx69 sx72 tz82 tz83 tz84 tz85 tz88 tz91 tz92 _ ?side1 ?side2 ?side3 ?side4 A73.out).mono ?_
 (case side1 => repeat (first | exact (Kd.R_reads' HO_z28002.out).2.2 | (with_reducible refine Kd.C_alloc ?_ _) | (with_reducible refine Kd.C_drewN ?_ _) | (with_reducible refine Kd.C_drew ?_)))
 (case side2 => exact (Kd.R_reads' HO_z28002.out).2.1)
 (case side3 => repeat (first | exact (Kd.R_reads' HO_z28003.out).2.2 | (with_reducible refine Kd.C_alloc ?_ _) | (with_reducible refine Kd.C_drewN ?_ _) | (with_reducible refine Kd.C_drew ?_)))
 (case side4 => exact (Kd.R_reads' HO_z28003.out).2.1)
 rintro e w113 ⟨vz86, vz89, rfl, ho0, ho1, hb⟩
 refine ⟨_, rfl, ?_⟩
 have n0_ := am (Kd.R_elder' (pr HO_z15002) (Kd.R_base ho0) hb)
 have n1_ := am (Kd.R_elder' (pr HO_z15003) (Kd.R_base ho1) hb)
 have n2_ := am (Kd.R_elder' (pr HO_z28002) (Kd.R_base ho0) hb)
 have n3_ := am (Kd.R_elder' (pr HO_z28003) (Kd.R_base ho1) hb)
 have n4_ := am (Kd.R_below (pr HOz30) hb)
 have n5_ := am (Kd.R_below (pr HOz34) hb)
 have n6_ := am (Kd.R_below (pr HOz61) hb)
 have n7_ := am (Kd.R_below (pr HOz64) hb)
 have n8_ := am (Kd.R_elder' (pr HOz70) (Kd.R_base ho0) hb)
 have n9_ := am (Kd.R_elder' (pr HOz73) (Kd.R_base ho1) hb)
 have n10_ := am (Kd.R_below (pr HOz78) hb)
 have n11_ := am (Kd.R_below (pr HOz81) hb)
 have n12_ := am (Kd.R_lower (Kd.R_new' (Kd.R_new' (Kd.R_new' ho0 (Kd.R_lt (pr HO_z15002))) (Kd.R_lt (pr HO_z28002))) (Kd.R_lt (pr HOz70))) (below_size (by repeat (first | (with_reducible first | exact HB.out | apply below_alloc | apply pw_below_drewN | apply below_drew1 | refine below_set ?_ GEz14.out | refine below_set ?_ GEz27.out) | exact HB.out))))
 have n13_ := am (Kd.R_lower (Kd.R_new' (Kd.R_new' (Kd.R_new' ho1 (Kd.R_lt (pr HO_z15003))) (Kd.R_lt (pr HO_z28003))) (Kd.R_lt (pr HOz73))) (below_size (by repeat (first | (with_reducible first | exact HB.out | apply below_alloc | apply pw_below_drewN | apply below_drew1 | refine below_set ?_ GEz14.out | refine below_set ?_ GEz27.out) | exact HB.out))))
 have n14_ := am (blk_below (pk BKz14) hb)
 have n15_ := am (blk_below (pk BKz27) hb)
 have n16_ := am (below_step (by repeat (first | (with_reducible first | exact HB.out | apply below_alloc | apply pw_below_drewN | apply below_drew1 | refine below_set ?_ GEz14.out | refine below_set ?_ GEz27.out) | exact HB.out)) hb)
 clear HO_z15002 HO_z15003 HO_z28002 HO_z28003 HOz30 HOz34 HOz61 HOz64 HOz70 HOz73 HOz78 HOz81 BKz14 BKz27 HB; have HO_z15002 := n0_; have HO_z15003 := n1_; have HO_z28002 := n2_; have HO_z28003 := n3_; have HOz30 := n4_; have HOz34 := n5_; have HOz61 := n6_; have HOz64 := n7_; have HOz70 := n8_; have HOz73 := n9_; have HOz78 := n10_; have HOz81 := n11_; have HOz87 := n12_; have HOz90 := n13_; have BKz14 := n14_; have BKz27 := n15_; have HB := n16_; clear n0_ n1_ n2_ n3_ n4_ n5_ n6_ n7_ n8_ n9_ n10_ n11_ n12_ n13_ n14_ n15_ n16_; (try clear hb); (try clear hb2); (try clear hk); (try clear hi); (try clear ho0); (try clear ho1)
 obtain ⟨Ao116, co116, eo116⟩ := Kd.R_slice HOz87.out
 (first | subst eo116 | (injection eo116 with f1_ f2_ f3_; have f4_ := f1_.symm; have f5_ := f3_.symm; clear f1_ f2_ f3_; subst f4_; subst f5_))
 obtain ⟨Ao118, co118, eo118⟩ := Kd.R_slice HOz90.out
 (first | subst eo118 | (injection eo118 with f1_ f2_ f3_; have f4_ := f1_.symm; have f5_ := f3_.symm; clear f1_ f2_ f3_; subst f4_; subst f5_))
 refine hK.out _ _ (bc5 BKz27) (fun hHeld => ?_)
 clear hK K
 refine norm_ (by show Act.put _ (some 104) _ = _; simp only [Act.put, sa_, s0_, s1_, i64_w, i32_w]; rfl) ?_
 refine pu_ 10 (some 94) HT_ rfl rfl (by kernel_rfl) (fun _ _ _ h => h) (.inl ⟨by rfl, by intro w'; go_simp; with_reducible rfl⟩) (by simp only [Act.put, sa_, s0_, s1_, i64_w, i32_w]; rfl) ?_
 refine pu_ 11 (some 105) HT_ rfl rfl (by kernel_rfl) (fun _ _ _ h => h) (.inl ⟨by rfl, by intro w'; go_simp; with_reducible rfl⟩) (by simp only [Act.put, sa_, s0_, s1_, i64_w, i32_w]; rfl) ?_
 refine pu_ 12 (some 106) HT_ rfl rfl (by kernel_rfl) (fun _ _ _ h => h) (.inl ⟨by rfl, by intro w'; go_simp; with_reducible rfl⟩) (by simp only [Act.put, sa_, s0_, s1_, i64_w, i32_w]; rfl) ?_
 refine pu_ 13 (some 107) HT_ rfl rfl (by kernel_rfl) (fun _ _ _ h => h) (.inl ⟨by rfl, by intro w'; go_simp; with_reducible rfl⟩) (by simp only [Act.put, sa_, s0_, s1_, i64_w, i32_w]; rfl) ?_
 refine pu_ 14 (some 18) HT_ rfl rfl (by kernel_rfl) (fun _ _ _ h => h) (.inl ⟨by rfl, by intro w'; go_simp; with_reducible rfl⟩) (by simp only [Act.put, sa_, s0_, s1_, i64_w, i32_w]; rfl) ?_
 refine la_ 15 none HT_ rfl rfl (by kernel_rfl) (by decide) (fun K hK => ?_)
 have hs114 : w113.cell? ⟨gbz27, 0, none⟩ = some (.string xz28000_2) := (blk_cell BKz27.out 0).trans rfl
 have hfs114 := blk_frozen BKz27.out 0
 have hns114_0 := NBz14_z27.out
 have hms114_0 := NBz27_z14.out
 have hs115 : w113.cell? ⟨gbz27, 1, none⟩ = some (.int .i64 xz28001_2) := (blk_cell BKz27.out 1).trans rfl
 have hfs115 := blk_frozen BKz27.out 1
 have hns115_0 := NBz14_z27.out
 have hms115_0 := NBz27_z14.out
 have hs117 : w113.cell? ⟨gbz27, 2, none⟩ = some (.slice Ao102 xz28002_2.length co102) := (blk_cell BKz27.out 2).trans rfl
 have hfs117 := blk_frozen BKz27.out 2
 have hns117_0 := NBz14_z27.out
 have hms117_0 := NBz27_z14.out
 have hs119 : w113.cell? ⟨gbz27, 3, none⟩ = some (.slice Ao103 xz28003_2.length co103) := (blk_cell BKz27.out 3).trans rfl
 have hfs119 := blk_frozen BKz27.out 3
 have hns119_0 := NBz14_z27.out
 have hms119_0 := NBz27_z14.out
 have hs120 : w113.cell? ⟨gbz27, 4, none⟩ = some (.bool xz28004_2) := (blk_cell BKz27.out 4).trans rfl
 have hfs120 := blk_frozen BKz27.out 4
 have hns120_0 := NBz14_z27.out
 have hms120_0 := NBz27_z14.out
 refine skip_ (by rfl) rfl (by go_simp; rfl) ?_
 refine hK.out _ _ ?_
 clear hK K
 refine pu_ 16 (some 13) HT_ rfl rfl (by kernel_rfl) (fun _ _ _ h => h) (.inl ⟨by rfl, by intro w'; go_simp; with_reducible rfl⟩) (by simp only [Act.put, sa_, s0_, s1_, i64_w, i32_w]; rfl) ?_
 refine done_ (done_of HT_.out (by kernel_rfl)) ?_
 have hnb121 := NBz14_z27.out
 have hnc121 := NBz27_z14.out
 have hcz122_0 : w113.cell? ⟨gbz14, 0, none⟩ = some (.string tz66) := (blk_cell BKz14.out 0).trans rfl
 have hcz122_1 : w113.cell? ⟨gbz14, 1, none⟩ = some (.int .i64 tz67) := (blk_cell BKz14.out 1).trans rfl
 have hcz122_2 : w113.cell? ⟨gbz14, 2, none⟩ = some (.slice Ao97 tz68.length co97) := (blk_cell BKz14.out 2).trans rfl
 have hcz122_3 : w113.cell? ⟨gbz14, 3, none⟩ = some (.slice Ao99 tz71.length co99) := (blk_cell BKz14.out 3).trans rfl
 have hcz122_4 : w113.cell? ⟨gbz14, 4, none⟩ = some (.bool tz74) := (blk_cell BKz14.out 4).trans rfl
 have hfz122_0 := blk_frozen BKz14.out 0
 have hfz122_1 := blk_frozen BKz14.out 1
 have hfz122_2 := blk_frozen BKz14.out 2
 have hfz122_3 := blk_frozen BKz14.out 3
 have hfz122_4 := blk_frozen BKz14.out 4
 have hcz123_0 : w113.cell? ⟨gbz27, 0, none⟩ = some (.string xz28000_2) := (blk_cell BKz27.out 0).trans rfl
 have hcz123_1 : w113.cell? ⟨gbz27, 1, none⟩ = some (.int .i64 xz28001_2) := (blk_cell BKz27.out 1).trans rfl
 have hcz123_2 : w113.cell? ⟨gbz27, 2, none⟩ = some (.slice Ao102 xz28002_2.length co102) := (blk_cell BKz27.out 2).trans rfl
 have hcz123_3 : w113.cell? ⟨gbz27, 3, none⟩ = some (.slice Ao103 xz28003_2.length co103) := (blk_cell BKz27.out 3).trans rfl
 have hcz123_4 : w113.cell? ⟨gbz27, 4, none⟩ = some (.bool xz28004_2) := (blk_cell BKz27.out 4).trans rfl
 have hfz123_0 := blk_frozen BKz27.out 0
 have hfz123_1 := blk_frozen BKz27.out 1
 have hfz123_2 := blk_frozen BKz27.out 2
 have hfz123_3 := blk_frozen BKz27.out 3
 have hfz123_4 := blk_frozen BKz27.out 4
 try go_wp2
 go_roundg kj26
 case measure => have := HJ9.out; have := HK2.out; have := HJ26.out; omega
 case rel => exact ⟨(wrap64 (x14_2 + 1)), (tz66), (tz67), (tz68), (tz71), (tz74), (tz83), (tz84), (tz85), (tz88), (tz91), (.slice Ao97 tz68.length co97), (.slice Ao99 tz71.length co99), (.slice Ao116 tz85.length co116), (.slice Ao118 tz88.length co118), (by first | rfl | (simp; done) | (simp [*]; done)), H', ⟨by have := HJ9.out; have := HK2.out; have := HJ26.out; omega⟩, ⟨by (with_reducible repeat (first | apply Kd.R_alloc | apply Kd.R_drewN | apply Kd.R_drew)); exact Kd.R_mono (rf5 (Kd.R_types HOz70.out BKz27.out (by decide)) (fun _ hk => hk.2)) (fun _ hk => hk.1.2)⟩, ⟨by (with_reducible repeat (first | apply Kd.R_alloc | apply Kd.R_drewN | apply Kd.R_drew)); exact Kd.R_mono (rf5 (Kd.R_types HOz73.out BKz27.out (by decide)) (fun _ hk => hk.2)) (fun _ hk => hk.1.2)⟩, ⟨by (with_reducible repeat (first | apply Kd.R_alloc | apply Kd.R_drewN | apply Kd.R_drew)); exact Kd.R_mono (rf5 (Kd.R_types HOz87.out BKz27.out (by decide)) (fun _ hk => hk.2)) (fun _ hk => hk.1.2)⟩, ⟨by (with_reducible repeat (first | apply Kd.R_alloc | apply Kd.R_drewN | apply Kd.R_drew)); exact Kd.R_mono (rf5 (Kd.R_types HOz90.out BKz27.out (by decide)) (fun _ hk => hk.2)) (fun _ hk => hk.1.2)⟩, ⟨by (with_reducible repeat (first | refine blk_drewN ?_ _ | refine blk_drew ?_ | refine blk_alloc ?_ _)); refine blk_far ?_ NBz14_z27.out _; (with_reducible repeat (first | refine blk_drewN ?_ _ | refine blk_drew ?_ | refine blk_alloc ?_ _)); refine blk_far ?_ NBz14_z27.out _; (with_reducible repeat (first | refine blk_drewN ?_ _ | refine blk_drew ?_ | refine blk_alloc ?_ _)); refine blk_far ?_ NBz14_z27.out _; (with_reducible repeat (first | refine blk_drewN ?_ _ | refine blk_drew ?_ | refine blk_alloc ?_ _)); refine blk_far ?_ NBz14_z27.out _; (with_reducible repeat (first | refine blk_drewN ?_ _ | refine blk_drew ?_ | refine blk_alloc ?_ _)); refine blk_far ?_ NBz14_z27.out _; (with_reducible repeat (first | refine blk_drewN ?_ _ | refine blk_drew ?_ | refine blk_alloc ?_ _)); exact BKz14.out⟩, ⟨by (with_reducible repeat (first | refine blk_drewN ?_ _ | refine blk_drew ?_ | refine blk_alloc ?_ _)); refine blk_put (cs := #[.string tz83, .int .i64 tz84, .slice Ao116 tz85.length co116, .slice Ao118 tz88.length co118, .bool xz28004_2]) ?_ 4 _ rfl; (with_reducible repeat (first | refine blk_drewN ?_ _ | refine blk_drew ?_ | refine blk_alloc ?_ _)); refine blk_put (cs := #[.string tz83, .int .i64 tz84, .slice Ao116 tz85.length co116, .slice Ao103 xz28003_2.length co103, .bool xz28004_2]) ?_ 3 _ rfl; (with_reducible repeat (first | refine blk_drewN ?_ _ | refine blk_drew ?_ | refine blk_alloc ?_ _)); refine blk_put (cs := #[.string tz83, .int .i64 tz84, .slice Ao102 xz28002_2.length co102, .slice Ao103 xz28003_2.length co103, .bool xz28004_2]) ?_ 2 _ rfl; (with_reducible repeat (first | refine blk_drewN ?_ _ | refine blk_drew ?_ | refine blk_alloc ?_ _)); refine blk_put (cs := #[.string tz83, .int .i64 xz28001_2, .slice Ao102 xz28002_2.length co102, .slice Ao103 xz28003_2.length co103, .bool xz28004_2]) ?_ 1 _ rfl; (with_reducible repeat (first | refine blk_drewN ?_ _ | refine blk_drew ?_ | refine blk_alloc ?_ _)); refine blk_put (cs := #[.string xz28000_2, .int .i64 xz28001_2, .slice Ao102 xz28002_2.length co102, .slice Ao103 xz28003_2.length co103, .bool xz28004_2]) ?_ 0 _ rfl; (with_reducible repeat (first | refine blk_drewN ?_ _ | refine blk_drew ?_ | refine blk_alloc ?_ _)); exact BKz27.out⟩, ⟨by repeat (first | (with_reducible first | exact HB.out | apply below_alloc | apply pw_below_drewN | apply below_drew1 | refine below_set ?_ GEz14.out | refine below_set ?_ GEz27.out) | exact HB.out)⟩⟩
def columbariumlaw08_IdealHangs.Pure : Prop := ∀ (l0 : List Int) (a1 : Bool) (l2 : List Int) (a3 : Int), l0.length ≤ maxLen → l0.length * 8 ≤ 140737488351232 → (∀ x ∈ l0, (Lit.int .i64 x).wf = true) → l2.length ≤ maxLen → l2.length * 8 ≤ 140737488351232 → (∀ x ∈ l2, (Lit.int .i64 x).wf = true) → (Lit.int .i64 a3).wf = true → ∃ k, columbariumlaw08_IdealHangs.f k l0 a1 l2 a3 = some true
theorem columbariumlaw08_IdealHangs.walk (P : columbariumlaw08_IdealHangs.Pure) (a0 : Option Addr) (len0 cap0 : Nat) (z0 : List Int) (a1 : Bool) (a2 : Option Addr) (len2 cap2 : Nat) (z2 : List Int) (a3 : Int) (w : World) (w0 : (a0 = none ∧ len0 = 0 ∧ cap0 = 0 ∧ z0 = []) ∨ ∃ x, a0 = some x ∧ len0 ≤ cap0 ∧ cap0 ≤ maxLen ∧ z0.length = cap0 ∧ (∀ i, i < z0.length → w.cell? (x.add i) = some (.int .i64 (z0.getD i 0))) ∧ ∀ n ∈ z0, (Lit.int .i64 n).wf = true) (y0 : len0 * 8 ≤ 140737488351232) (w2 : (a2 = none ∧ len2 = 0 ∧ cap2 = 0 ∧ z2 = []) ∨ ∃ x, a2 = some x ∧ len2 ≤ cap2 ∧ cap2 ≤ maxLen ∧ z2.length = cap2 ∧ (∀ i, i < z2.length → w.cell? (x.add i) = some (.int .i64 (z2.getD i 0))) ∧ ∀ n ∈ z2, (Lit.int .i64 n).wf = true) (y2 : len2 * 8 ≤ 140737488351232) (w3 : (Lit.int .i64 a3).wf = true) :
  Calls Try.prog 10 #[.slice a0 len0 cap0, .bool a1, .slice a2 len2 cap2, .int .i64 a3] w fun e w' => e = .returned (.bool true) ∧ Below w.heap.size w w' := by
 obtain ⟨l0, rfl, hr0, hm0, hw0, hc0⟩ := ReadsInt.ofRowC w0
 obtain ⟨l2, rfl, hr2, hm2, hw2, hc2⟩ := ReadsInt.ofRowC w2
 obtain ⟨k, h⟩ := P l0 a1 l2 a3 hm0 y0 hw0 hm2 y2 hw2 w3
 refine (columbariumlaw08_IdealHangs.calls k _ _ l0 a1 _ _ l2 a3 true w (Kd.C_of_reads (d := (0 : Int)) (h1 := fun _ => rfl) hr0) hc0 (Kd.C_of_reads (d := (0 : Int)) (h1 := fun _ => rfl) hr2) hc2 h).mono ?_
 rintro e w' ⟨rfl, hd⟩
 exact ⟨rfl, hd⟩
end Go.Proofs.Ytmkncddbecmlpaa.Pr
end
