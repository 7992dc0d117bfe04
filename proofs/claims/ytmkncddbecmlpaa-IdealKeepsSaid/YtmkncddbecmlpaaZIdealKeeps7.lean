/-
  A text of what the row IdealKeeps reaches, laid together by a program of this session (wip/tools/shake.py) out of this seat's texts. No condition but the ones that each lemma names.
-/
import Derived.Test.YtmkncddbecmlpaaZIdealKeeps1
import Derived.Test.YtmkncddbecmlpaaZIdealKeeps2
import Derived.Test.YtmkncddbecmlpaaZIdealKeeps3
import Derived.Test.YtmkncddbecmlpaaZIdealKeeps4
import Derived.Test.YtmkncddbecmlpaaZIdealKeeps5
import Derived.Test.YtmkncddbecmlpaaZIdealKeeps6
set_option linter.unusedVariables false
set_option linter.unusedSimpArgs false
section
namespace Go.Proofs.Ytmkncddbecmlpaa.Pr
open Go.Proofs.Ytmkncddbecmlpaa.Sq Go.RowKit Go.Proofs.YtmkncddbecmlpaaW.PrintWords Go.Proofs.YtmkncddbecmlpaaW.PrintLast Go.Proofs.YtmkncddbecmlpaaW.PrintMore
attribute [local go_sem] max2_int min2_int max_two min_two max_three min_three max_four min_four
set_option linter.unusedVariables false
set_option linter.unusedSimpArgs false
set_option maxHeartbeats 8000000 in
set_option maxRecDepth 100000 in
theorem columbariumlaw08_IdealKeeps.calls (k : Nat) (A0 : Option Addr) (c0 : Nat) (l0 : List Int) (a1 : Bool) (A2 : Option Addr) (c2 : Nat) (l2 : List (S46)) (r : Bool) (w : World) (hr0 : Kd.C (Kd.int .i64) w A0 l0.length l0) (hc0 : l0.length ≤ c0) (hr2 : Kd.C k46 w A2 l2.length l2) (hc2 : l2.length ≤ c2) (h : columbariumlaw08_IdealKeeps.f k l0 a1 l2 = some r) :
  Calls Try.prog 9 #[.slice A0 l0.length c0, .bool a1, .slice A2 l2.length c2] w fun e w' => e = .returned (.bool r) ∧ Below w.heap.size w w' := by
 have hu50 := Try.underlying50
 have hu46 := Try.underlying46
 have HR0 := am hr0
 have HC0 := am hc0
 clear hr0 hc0
 have HR2 := am hr2
 have HC2 := am hc2
 clear hr2 hc2
 have HB := am (Below.refl w.heap.size w)
 have H : ((columbariumlaw08_awake.f k).bind fun tz1 => ((columbariumlaw08_Draws.f k l0 a1).bind fun btz2 => ((ideal_New.f btz2.1 btz2.2).bind fun btz4 => (if btz4.2.2.2.2.2 = 0 then (columbariumlaw08_IdealKeeps.l0 k l2 tz1 ([] : List ByteArray) ([] : List ByteArray) 0 btz4.1 btz4.2.1 btz4.2.2.1 btz4.2.2.2.1 btz4.2.2.2.2.1) else (none))))) = some r := h
 clear h
 replace H := Option.bind_eq_some_iff.mp H
 obtain ⟨tz1, A40, H⟩ := H
 replace H : ((columbariumlaw08_Draws.f k l0 a1).bind fun btz2 => ((ideal_New.f btz2.1 btz2.2).bind fun btz4 => (if btz4.2.2.2.2.2 = 0 then (columbariumlaw08_IdealKeeps.l0 k l2 tz1 ([] : List ByteArray) ([] : List ByteArray) 0 btz4.1 btz4.2.1 btz4.2.2.1 btz4.2.2.2.1 btz4.2.2.2.2.1) else (none)))) = some r := H
 have A4 := Aside0.mk A40
 clear A40
 replace H := Option.bind_eq_some_iff.mp H
 obtain ⟨⟨tz2, tz3⟩, A50, H⟩ := H
 replace H : ((ideal_New.f tz2 tz3).bind fun btz4 => (if btz4.2.2.2.2.2 = 0 then (columbariumlaw08_IdealKeeps.l0 k l2 tz1 ([] : List ByteArray) ([] : List ByteArray) 0 btz4.1 btz4.2.1 btz4.2.2.1 btz4.2.2.2.1 btz4.2.2.2.2.1) else (none))) = some r := H
 have A5 := Aside0.mk A50
 clear A50
 replace H := Option.bind_eq_some_iff.mp H
 obtain ⟨⟨tz4, tz5, tz6, tz9, tz12, tz13⟩, A60, H⟩ := H
 replace H : (if tz13 = 0 then (columbariumlaw08_IdealKeeps.l0 k l2 tz1 ([] : List ByteArray) ([] : List ByteArray) 0 tz4 tz5 tz6 tz9 tz12) else (none)) = some r := H
 have A6 := Aside0.mk A60
 clear A60
 by_cases c7 : tz13 = 0
 rotate_left
 ·rw [if_neg c7] at H
  exact absurd H (by simp)
 rw [if_pos c7] at H
 have c7b0 : (tz13 == 0) = true := beq_iff_eq.mpr c7
 have c7b1 : (tz13 != 0) = false := bne_eq_false_iff_eq.mpr c7
 clear c7
 have H' := am H
 clear H
 go_enter Try.func9, Try.ntmps9
 go_wp2_with (first | ((with_reducible refine gate_callee (f := 28) rfl ?_); refine goesL_ (some 20) rfl rfl Try.func28 (by kernel_rfl) rfl #[] rfl (by (try simp only [List.map_toArray, List.map_cons, List.map_nil]); first | done | rfl | (simp only [List.length_drop, List.length_take]; rfl)) ?_; (with_reducible refine (columbariumlaw08_awake.calls k  tz1 _ A4.out).mono ?_); rintro e w8 ⟨rfl, hb⟩; refine ⟨_, rfl, ?_⟩; have n0_ := am (below_step (pb HB) hb); clear HB; have HB := n0_; clear n0_; (try clear hb); (try clear hb2); (try clear hk); (try clear hi)) | ((with_reducible refine gate_callee (f := 29) rfl ?_); refine goesL_ (some 24) rfl rfl Try.func29 (by kernel_rfl) rfl #[.slice A0 l0.length c0, .bool a1] rfl (by (try simp only [List.map_toArray, List.map_cons, List.map_nil]); first | done | rfl | (simp only [List.length_drop, List.length_take]; rfl)) ?_; (with_reducible refine (columbariumlaw08_Draws.calls k _ _ l0 a1 tz2 tz3 _ ?side1 ?side2 A5.out).mono ?_); (case side1 => repeat (first | exact (Kd.C_below HR0.out HB.out) | (with_reducible refine Kd.C_alloc ?_ _) | (with_reducible refine Kd.C_drewN ?_ _) | (with_reducible refine Kd.C_drew ?_))); (case side2 => exact HC0.out); rintro e w9 ⟨rfl, hb⟩; refine ⟨_, rfl, ?_⟩; have n0_ := am (below_step (pb HB) hb); clear HB; have HB := n0_; clear n0_; (try clear hb); (try clear hb2); (try clear hk); (try clear hi)) | ((with_reducible refine gate_callee (f := 30) rfl ?_); refine goesL_ (some 25) rfl rfl Try.func30 (by kernel_rfl) rfl #[.agg #[.string tz2, .int .i64 tz3]] rfl (by (try simp only [List.map_toArray, List.map_cons, List.map_nil]); first | done | rfl | (simp only [List.length_drop, List.length_take]; rfl)) ?_; (with_reducible refine (ideal_New.calls tz2 tz3 tz4 tz5 tz6 tz9 tz12 tz13 _ A6.out).mono ?_); rintro e w10 ⟨vz7, vz10, rfl, ho0, ho1, hb⟩; refine ⟨_, rfl, ?_⟩; have n0_ := am (Kd.R_lower ho0 (below_size (pb HB))); have n1_ := am (Kd.R_lower ho1 (below_size (pb HB))); have n2_ := am (below_step (pb HB) hb); clear HB; have HOz8 := n0_; have HOz11 := n1_; have HB := n2_; clear n0_ n1_ n2_; (try clear hb); (try clear hb2); (try clear hk); (try clear hi); (try clear ho0); (try clear ho1)) | ((with_reducible refine gate_dst (N := 8) rfl ?_); refine box_event ?hg (N := 8) ?hd (cs := #[.string (⟨#[]⟩ : ByteArray), .int .i64 0, .slice none 0 0, .slice none 0 0, .bool false]) (t := 50) ?hr ?_; (case hd => rfl); (case hg => rfl); (case hr => first | (go_simp; done) | (go_simp; rfl)); intro gbz14 hg w11 hbox hb; have n0_ := am (Kd.R_below (pr HOz8) hb); have n1_ := am (Kd.R_below (pr HOz11) hb); have n2_ := am (below_step (pb HB) hb); have n3_ := am (hbox); have n4_ := am ((by rw [hg]; exact (below_size (pb HB)) : w.heap.size ≤ gbz14)); have n5_ := am ((by rw [hg]; exact (below_size (pb HB)) : w.heap.size ≤ gbz14)); clear HOz8; clear HOz11; clear HB; have HOz8 := n0_; have HOz11 := n1_; have HB := n2_; have BKz14 := n3_; have GWz14 := n4_; have GEz14 := n5_; clear n0_ n1_ n2_ n3_ n4_ n5_; clear hb hbox hg; have hcz12_0 : w11.cell? ⟨gbz14, 0, none⟩ = some (.string (⟨#[]⟩ : ByteArray)) := (blk_cell BKz14.out 0).trans rfl; have hcz12_1 : w11.cell? ⟨gbz14, 1, none⟩ = some (.int .i64 0) := (blk_cell BKz14.out 1).trans rfl; have hcz12_2 : w11.cell? ⟨gbz14, 2, none⟩ = some (.slice none 0 0) := (blk_cell BKz14.out 2).trans rfl; have hcz12_3 : w11.cell? ⟨gbz14, 3, none⟩ = some (.slice none 0 0) := (blk_cell BKz14.out 3).trans rfl; have hcz12_4 : w11.cell? ⟨gbz14, 4, none⟩ = some (.bool false) := (blk_cell BKz14.out 4).trans rfl; have hfz12_0 := blk_frozen BKz14.out 0; have hfz12_1 := blk_frozen BKz14.out 1; have hfz12_2 := blk_frozen BKz14.out 2; have hfz12_3 := blk_frozen BKz14.out 3; have hfz12_4 := blk_frozen BKz14.out 4; obtain ⟨Ao13, co13, eo13⟩ := Kd.R_slice HOz8.out; subst eo13; obtain ⟨Ao14, co14, eo14⟩ := Kd.R_slice HOz11.out; subst eo14))
 go_loopg [10, 11, 12] k (fun kq v10 v11 v12 w' => ∃ (x10_1 : List ByteArray) (x11_1 : List ByteArray) (x12_1 : Int) (xz15000_1 : ByteArray) (xz15001_1 : Int) (xz15002_1 : List (S72)) (xz15003_1 : List (S74)) (xz15004_1 : Bool) (uz15002 : Value) (uz15003 : Value), v12 = .int .i64 x12_1 ∧ Aside0 (columbariumlaw08_IdealKeeps.l0 kq l2 tz1 x10_1 x11_1 x12_1 xz15000_1 xz15001_1 xz15002_1 xz15003_1 xz15004_1 = some r) ∧ Aside0 (kq ≤ k) ∧ Aside0 (Kd.R Kd.string 9 w' w.heap.size (fun k_ => some k_ ≠ (v11 : Value).ownBlock) v10 x10_1) ∧ Aside0 (Kd.R Kd.string 9 w' w.heap.size (fun k_ => some k_ ≠ (v10 : Value).ownBlock) v11 x11_1) ∧ Aside0 (Kd.R k72 72 w' w.heap.size (fun _ => True) uz15002 xz15002_1) ∧ Aside0 (Kd.R k74 74 w' w.heap.size (fun _ => True) uz15003 xz15003_1) ∧ Aside0 (w'.heap[gbz14]? = some (.cells #[.string xz15000_1, .int .i64 xz15001_1, uz15002, uz15003, .bool xz15004_1] 50 (0, 0))) ∧ Aside0 (Below w.heap.size w w'))
 case atStart => exact ⟨(([] : List ByteArray)), (([] : List ByteArray)), (0), (tz4), (tz5), (tz6), (tz9), (tz12), (.slice Ao13 tz6.length co13), (.slice Ao14 tz9.length co14), (by first | rfl | (simp; done) | (simp [*]; done)), H', ⟨Nat.le_refl _⟩, ⟨by first | exact Kd.R_nil _ _ _ _ _ | exact Kd.N_nil _ _ _ _ _ | exact Kd.V_nil _ _ _ _ _ | exact Kd.Q_nil _ _ _ _ _ | exact Kd.S_nil _ _ _ _ _⟩, ⟨by first | exact Kd.R_nil _ _ _ _ _ | exact Kd.N_nil _ _ _ _ _ | exact Kd.V_nil _ _ _ _ _ | exact Kd.Q_nil _ _ _ _ _ | exact Kd.S_nil _ _ _ _ _⟩, ⟨by (with_reducible repeat (first | apply Kd.R_alloc | apply Kd.R_drewN | apply Kd.R_drew)); exact Kd.R_mono (rf5 (Kd.R_types HOz8.out BKz14.out (by decide)) (fun _ hk => hk.2)) (fun _ hk => trivial)⟩, ⟨by (with_reducible repeat (first | apply Kd.R_alloc | apply Kd.R_drewN | apply Kd.R_drew)); exact Kd.R_mono (rf5 (Kd.R_types HOz11.out BKz14.out (by decide)) (fun _ hk => hk.2)) (fun _ hk => trivial)⟩, ⟨by (with_reducible repeat (first | refine blk_drewN ?_ _ | refine blk_drew ?_ | refine blk_alloc ?_ _)); refine blk_put (cs := #[.string tz4, .int .i64 tz5, .slice Ao13 tz6.length co13, .slice Ao14 tz9.length co14, .bool false]) ?_ 4 _ rfl; (with_reducible repeat (first | refine blk_drewN ?_ _ | refine blk_drew ?_ | refine blk_alloc ?_ _)); refine blk_put (cs := #[.string tz4, .int .i64 tz5, .slice Ao13 tz6.length co13, .slice none 0 0, .bool false]) ?_ 3 _ rfl; (with_reducible repeat (first | refine blk_drewN ?_ _ | refine blk_drew ?_ | refine blk_alloc ?_ _)); refine blk_put (cs := #[.string tz4, .int .i64 tz5, .slice none 0 0, .slice none 0 0, .bool false]) ?_ 2 _ rfl; (with_reducible repeat (first | refine blk_drewN ?_ _ | refine blk_drew ?_ | refine blk_alloc ?_ _)); refine blk_put (cs := #[.string tz4, .int .i64 0, .slice none 0 0, .slice none 0 0, .bool false]) ?_ 1 _ rfl; (with_reducible repeat (first | refine blk_drewN ?_ _ | refine blk_drew ?_ | refine blk_alloc ?_ _)); refine blk_put (cs := #[.string (⟨#[]⟩ : ByteArray), .int .i64 0, .slice none 0 0, .slice none 0 0, .bool false]) ?_ 0 _ rfl; (with_reducible repeat (first | refine blk_drewN ?_ _ | refine blk_drew ?_ | refine blk_alloc ?_ _)); exact BKz14.out⟩, ⟨by repeat (first | (with_reducible first | exact HB.out | apply below_alloc | apply pw_below_drewN | apply below_drew1 | refine below_set ?_ GEz14.out) | exact HB.out)⟩⟩
 clear H'
 try clear c2
 try clear p2
 try clear c3
 try clear c7
 try clear c7b0
 try clear c7b1
 try clear c9
 try clear hcz12_0
 try clear hcz12_1
 try clear hcz12_2
 try clear hcz12_3
 try clear hcz12_4
 try clear hfz12_0
 try clear hfz12_1
 try clear hfz12_2
 try clear hfz12_3
 try clear hfz12_4
 obtain ⟨x10_1, x11_1, x12_1, xz15000_1, xz15001_1, xz15002_1, xz15003_1, xz15004_1, uz15002, uz15003, rfl, HA, HK1, HO_10, HO_11, HO_z15002, HO_z15003, BKz14, HB⟩ := hrel
 cases gk with
 | zero => exact absurd HA.out (by simp [columbariumlaw08_IdealKeeps.l0])
 | succ k1 => ?_
 have H := HA.out
 clear HA
 simp only [columbariumlaw08_IdealKeeps.l0] at H
 have HC15 := am H
 clear H
 go_upto_region 8 with (fail)
 go_cut [37] (fun v37 wc => ∃ (kq : Nat) (x37_14 : Bool), v37 = .bool x37_14 ∧ Aside0 (columbariumlaw08_IdealKeeps.j1 kq l2 tz1 x10_1 x11_1 x12_1 x37_14 xz15000_1 xz15001_1 xz15002_1 xz15003_1 xz15004_1 = some r) ∧ Aside0 (kq ≤ k1) ∧ Aside0 (Kd.R Kd.string 9 wc w.heap.size (fun k_ => some k_ ≠ (u11 : Value).ownBlock) u10 x10_1) ∧ Aside0 (Kd.R Kd.string 9 wc w.heap.size (fun k_ => some k_ ≠ (u10 : Value).ownBlock) u11 x11_1) ∧ Aside0 (Kd.R k72 72 wc w.heap.size (fun _ => True) uz15002 xz15002_1) ∧ Aside0 (Kd.R k74 74 wc w.heap.size (fun _ => True) uz15003 xz15003_1) ∧ Aside0 (wc.heap[gbz14]? = some (.cells #[.string xz15000_1, .int .i64 xz15001_1, uz15002, uz15003, .bool xz15004_1] 50 (0, 0))) ∧ Aside0 (Below w.heap.size w wc))
 case first =>
  have H := HC15.out
  clear HC15
  by_cases c16 : x12_1 < (l2.length : Int)
  rotate_left
  ·rw [if_neg c16] at H
   have c16b0 : decide (x12_1 < (l2.length : Int)) = false := decide_eq_false c16
   clear c16
   (first | rw [c16b0] | rw [c16b1] | (simp only [i64_w, i32_w]; rw [c16b0]) | skip)
   have H' := am H
   clear H
   go_wp2
   go_meet
   case rel => exact ⟨_, (false), (by first | rfl | (simp; done) | (simp [*]; done)), H', ⟨by have := HK1.out; first | omega | exact Nat.le_refl _⟩, ⟨by (with_reducible repeat (first | apply Kd.R_alloc | apply Kd.R_drewN | apply Kd.R_drew)); exact HO_10.out⟩, ⟨by (with_reducible repeat (first | apply Kd.R_alloc | apply Kd.R_drewN | apply Kd.R_drew)); exact HO_11.out⟩, ⟨by (with_reducible repeat (first | apply Kd.R_alloc | apply Kd.R_drewN | apply Kd.R_drew)); exact HO_z15002.out⟩, ⟨by (with_reducible repeat (first | apply Kd.R_alloc | apply Kd.R_drewN | apply Kd.R_drew)); exact HO_z15003.out⟩, ⟨by (with_reducible repeat (first | refine blk_drewN ?_ _ | refine blk_drew ?_ | refine blk_alloc ?_ _)); exact BKz14.out⟩, ⟨by repeat (first | (with_reducible first | exact HB.out | apply below_alloc | apply pw_below_drewN | apply below_drew1 | refine below_set ?_ GEz14.out) | exact HB.out)⟩⟩
  rw [if_pos c16] at H
  have c16b0 : decide (x12_1 < (l2.length : Int)) = true := decide_eq_true c16
  clear c16
  (first | rw [c16b0] | rw [c16b1] | (simp only [i64_w, i32_w]; rw [c16b0]) | skip)
  have H' := am H
  clear H
  go_wp2
  go_meet
  case rel => exact ⟨_, (decide (x12_1 < 15)), (by first | rfl | (simp; done) | (simp [*]; done)), H', ⟨by have := HK1.out; first | omega | exact Nat.le_refl _⟩, ⟨by (with_reducible repeat (first | apply Kd.R_alloc | apply Kd.R_drewN | apply Kd.R_drew)); exact HO_10.out⟩, ⟨by (with_reducible repeat (first | apply Kd.R_alloc | apply Kd.R_drewN | apply Kd.R_drew)); exact HO_11.out⟩, ⟨by (with_reducible repeat (first | apply Kd.R_alloc | apply Kd.R_drewN | apply Kd.R_drew)); exact HO_z15002.out⟩, ⟨by (with_reducible repeat (first | apply Kd.R_alloc | apply Kd.R_drewN | apply Kd.R_drew)); exact HO_z15003.out⟩, ⟨by (with_reducible repeat (first | refine blk_drewN ?_ _ | refine blk_drew ?_ | refine blk_alloc ?_ _)); exact BKz14.out⟩, ⟨by repeat (first | (with_reducible first | exact HB.out | apply below_alloc | apply pw_below_drewN | apply below_drew1 | refine below_set ?_ GEz14.out) | exact HB.out)⟩⟩
 clear HC15
 try clear c1
 try clear c2
 try clear p2
 try clear c3
 try clear c7
 try clear c7b0
 try clear c7b1
 try clear c9
 try clear c16
 try clear c16b0
 try clear c16b1
 try clear hcz12_0
 try clear hcz12_1
 try clear hcz12_2
 try clear hcz12_3
 try clear hcz12_4
 try clear hfz12_0
 try clear hfz12_1
 try clear hfz12_2
 try clear hfz12_3
 try clear hfz12_4
 try clear p2
 obtain ⟨kq, x37_14, rfl, HA, HJ14, HO_10, HO_11, HO_z15002, HO_z15003, BKz14, HB⟩ := hcut
 cases kq with
 | zero => exact absurd HA.out (by simp [columbariumlaw08_IdealKeeps.j1])
 | succ kj14 => ?_
 have H := HA.out
 clear HA
 simp only [columbariumlaw08_IdealKeeps.j1] at H
 by_cases c17 : x37_14 = true
 rotate_left
 ·replace c17 := Bool.eq_false_iff.mpr c17
  subst c17
  have H1 : (some tz1) = some r := by rw [if_neg (show ¬ (false = true) by decide)] at H; exact H
  clear H
  have H := H1
  clear H1
  obtain rfl := Option.some.inj H
  go_wp2
  go_ret
  exact ⟨by first | rfl | (simp [errW_none, errW_some] <;> rfl) | (simp [*, errW_none, errW_some] <;> rfl), by repeat (first | (with_reducible first | exact HB.out | apply below_alloc | apply pw_below_drewN | apply below_drew1 | refine below_set ?_ GEz14.out) | exact HB.out)⟩
 as_aux_lemma =>
  subst c17
  have H1 : (if 0 ≤ x12_1 then (if x12_1 < (l2.length : Int) then ((columbariumlaw08_pick.f ((rd_T46 l2 x12_1).f1) 6).bind fun tz17 => ((some (([(tz17) % 256] : List Int) : List Int)).bind fun yz18 => (if 1 + (strOfNums yz18).size ≤ 9223372036854775807 then ((columbariumlaw08_pick.f ((rd_T46 l2 x12_1).f0) 2).bind fun tz21 => (if tz21 = 0 then (if 1 ≤ (((⟨#[102]⟩ : ByteArray) ++ (strOfNums yz18)).size : Int) then ((ideal_Label.f kj14 xz15000_1 xz15001_1 xz15002_1 xz15003_1 xz15004_1 (((⟨#[102]⟩ : ByteArray) ++ (strOfNums yz18)).extract 1 ((⟨#[102]⟩ : ByteArray) ++ (strOfNums yz18)).size)).bind fun btz22 => (columbariumlaw08_IdealKeeps.j2 kj14 l2 tz1 btz22.2.2.2.2.2.2 x10_1 x11_1 x12_1 ((⟨#[102]⟩ : ByteArray) ++ (strOfNums yz18)) btz22.1 btz22.2.1 btz22.2.2.1 btz22.2.2.2.1 btz22.2.2.2.2.1 btz22.2.2.2.2.2.1)) else (none)) else ((columbariumlaw08_Label.f ((rd_T46 l2 x12_1).f1)).bind fun tz33 => (if 1 + tz33.size ≤ 9223372036854775807 then ((columbariumlaw08_Text.f ((rd_T46 l2 x12_1).f2)).bind fun tz34 => (if ((⟨#[99]⟩ : ByteArray) ++ tz33).size + tz34.size ≤ 9223372036854775807 then ((columbariumlaw08_Label.f ((rd_T46 l2 x12_1).f1)).bind fun tz35 => ((columbariumlaw08_Text.f ((rd_T46 l2 x12_1).f2)).bind fun tz36 => ((ideal_Seal.f kj14 xz15000_1 xz15001_1 xz15002_1 xz15003_1 xz15004_1 tz35 tz36).bind fun btz37 => ((columbariumlaw08_Label.f ((rd_T46 l2 x12_1).f1)).bind fun tz48 => ((ideal_Open.f btz37.2.1 btz37.2.2.1 btz37.2.2.2.1 btz37.2.2.2.2.1 btz37.2.2.2.2.2.1 tz48 btz37.1).bind fun btz49 => (if btz49.2 = 0 then (if btz37.2.2.2.2.2.1 = true then (columbariumlaw08_IdealKeeps.j2 kj14 l2 tz1 btz37.2.2.2.2.2.2 x10_1 x11_1 x12_1 (((⟨#[99]⟩ : ByteArray) ++ tz33) ++ tz34) btz37.1 btz37.2.1 btz37.2.2.1 btz37.2.2.2.1 btz37.2.2.2.2.1 btz37.2.2.2.2.2.1) else ((columbariumlaw08_Text.f ((rd_T46 l2 x12_1).f2)).bind fun tz51 => (if btz49.1.toList = tz51.toList then (columbariumlaw08_IdealKeeps.j2 kj14 l2 tz1 btz37.2.2.2.2.2.2 x10_1 x11_1 x12_1 (((⟨#[99]⟩ : ByteArray) ++ tz33) ++ tz34) btz37.1 btz37.2.1 btz37.2.2.1 btz37.2.2.2.1 btz37.2.2.2.2.1 btz37.2.2.2.2.2.1) else (none)))) else (none))))))) else (none))) else (none))))) else (none)))) else (none)) else (none)) = some r := by rw [if_pos rfl] at H; exact H
  clear H
  have H := H1
  clear H1
  by_cases c18 : 0 ≤ x12_1
  rotate_left
  ·rw [if_neg c18] at H
   exact absurd H (by simp)
  rw [if_pos c18] at H
  have c18b0 : decide (0 ≤ x12_1) = true := decide_eq_true c18
  clear c18
  by_cases c19 : x12_1 < (l2.length : Int)
  rotate_left
  ·rw [if_neg c19] at H
   exact absurd H (by simp)
  rw [if_pos c19] at H
  have c19b0 : decide (x12_1 < (l2.length : Int)) = true := decide_eq_true c19
  clear c19
  replace H := Option.bind_eq_some_iff.mp H
  obtain ⟨tz17, A200, H⟩ := H
  replace H : ((some (([(tz17) % 256] : List Int) : List Int)).bind fun yz18 => (if 1 + (strOfNums yz18).size ≤ 9223372036854775807 then ((columbariumlaw08_pick.f ((rd_T46 l2 x12_1).f0) 2).bind fun tz21 => (if tz21 = 0 then (if 1 ≤ (((⟨#[102]⟩ : ByteArray) ++ (strOfNums yz18)).size : Int) then ((ideal_Label.f kj14 xz15000_1 xz15001_1 xz15002_1 xz15003_1 xz15004_1 (((⟨#[102]⟩ : ByteArray) ++ (strOfNums yz18)).extract 1 ((⟨#[102]⟩ : ByteArray) ++ (strOfNums yz18)).size)).bind fun btz22 => (columbariumlaw08_IdealKeeps.j2 kj14 l2 tz1 btz22.2.2.2.2.2.2 x10_1 x11_1 x12_1 ((⟨#[102]⟩ : ByteArray) ++ (strOfNums yz18)) btz22.1 btz22.2.1 btz22.2.2.1 btz22.2.2.2.1 btz22.2.2.2.2.1 btz22.2.2.2.2.2.1)) else (none)) else ((columbariumlaw08_Label.f ((rd_T46 l2 x12_1).f1)).bind fun tz33 => (if 1 + tz33.size ≤ 9223372036854775807 then ((columbariumlaw08_Text.f ((rd_T46 l2 x12_1).f2)).bind fun tz34 => (if ((⟨#[99]⟩ : ByteArray) ++ tz33).size + tz34.size ≤ 9223372036854775807 then ((columbariumlaw08_Label.f ((rd_T46 l2 x12_1).f1)).bind fun tz35 => ((columbariumlaw08_Text.f ((rd_T46 l2 x12_1).f2)).bind fun tz36 => ((ideal_Seal.f kj14 xz15000_1 xz15001_1 xz15002_1 xz15003_1 xz15004_1 tz35 tz36).bind fun btz37 => ((columbariumlaw08_Label.f ((rd_T46 l2 x12_1).f1)).bind fun tz48 => ((ideal_Open.f btz37.2.1 btz37.2.2.1 btz37.2.2.2.1 btz37.2.2.2.2.1 btz37.2.2.2.2.2.1 tz48 btz37.1).bind fun btz49 => (if btz49.2 = 0 then (if btz37.2.2.2.2.2.1 = true then (columbariumlaw08_IdealKeeps.j2 kj14 l2 tz1 btz37.2.2.2.2.2.2 x10_1 x11_1 x12_1 (((⟨#[99]⟩ : ByteArray) ++ tz33) ++ tz34) btz37.1 btz37.2.1 btz37.2.2.1 btz37.2.2.2.1 btz37.2.2.2.2.1 btz37.2.2.2.2.2.1) else ((columbariumlaw08_Text.f ((rd_T46 l2 x12_1).f2)).bind fun tz51 => (if btz49.1.toList = tz51.toList then (columbariumlaw08_IdealKeeps.j2 kj14 l2 tz1 btz37.2.2.2.2.2.2 x10_1 x11_1 x12_1 (((⟨#[99]⟩ : ByteArray) ++ tz33) ++ tz34) btz37.1 btz37.2.1 btz37.2.2.1 btz37.2.2.2.1 btz37.2.2.2.2.1 btz37.2.2.2.2.2.1) else (none)))) else (none))))))) else (none))) else (none))))) else (none))) = some r := H
  have A20 := Aside0.mk A200
  clear A200
  obtain ⟨yz18, hyz18⟩ : ∃ y_ : List Int, y_ = (([(tz17) % 256] : List Int)) := ⟨_, rfl⟩
  replace H : (if 1 + (strOfNums yz18).size ≤ 9223372036854775807 then ((columbariumlaw08_pick.f ((rd_T46 l2 x12_1).f0) 2).bind fun tz21 => (if tz21 = 0 then (if 1 ≤ (((⟨#[102]⟩ : ByteArray) ++ (strOfNums yz18)).size : Int) then ((ideal_Label.f kj14 xz15000_1 xz15001_1 xz15002_1 xz15003_1 xz15004_1 (((⟨#[102]⟩ : ByteArray) ++ (strOfNums yz18)).extract 1 ((⟨#[102]⟩ : ByteArray) ++ (strOfNums yz18)).size)).bind fun btz22 => (columbariumlaw08_IdealKeeps.j2 kj14 l2 tz1 btz22.2.2.2.2.2.2 x10_1 x11_1 x12_1 ((⟨#[102]⟩ : ByteArray) ++ (strOfNums yz18)) btz22.1 btz22.2.1 btz22.2.2.1 btz22.2.2.2.1 btz22.2.2.2.2.1 btz22.2.2.2.2.2.1)) else (none)) else ((columbariumlaw08_Label.f ((rd_T46 l2 x12_1).f1)).bind fun tz33 => (if 1 + tz33.size ≤ 9223372036854775807 then ((columbariumlaw08_Text.f ((rd_T46 l2 x12_1).f2)).bind fun tz34 => (if ((⟨#[99]⟩ : ByteArray) ++ tz33).size + tz34.size ≤ 9223372036854775807 then ((columbariumlaw08_Label.f ((rd_T46 l2 x12_1).f1)).bind fun tz35 => ((columbariumlaw08_Text.f ((rd_T46 l2 x12_1).f2)).bind fun tz36 => ((ideal_Seal.f kj14 xz15000_1 xz15001_1 xz15002_1 xz15003_1 xz15004_1 tz35 tz36).bind fun btz37 => ((columbariumlaw08_Label.f ((rd_T46 l2 x12_1).f1)).bind fun tz48 => ((ideal_Open.f btz37.2.1 btz37.2.2.1 btz37.2.2.2.1 btz37.2.2.2.2.1 btz37.2.2.2.2.2.1 tz48 btz37.1).bind fun btz49 => (if btz49.2 = 0 then (if btz37.2.2.2.2.2.1 = true then (columbariumlaw08_IdealKeeps.j2 kj14 l2 tz1 btz37.2.2.2.2.2.2 x10_1 x11_1 x12_1 (((⟨#[99]⟩ : ByteArray) ++ tz33) ++ tz34) btz37.1 btz37.2.1 btz37.2.2.1 btz37.2.2.2.1 btz37.2.2.2.2.1 btz37.2.2.2.2.2.1) else ((columbariumlaw08_Text.f ((rd_T46 l2 x12_1).f2)).bind fun tz51 => (if btz49.1.toList = tz51.toList then (columbariumlaw08_IdealKeeps.j2 kj14 l2 tz1 btz37.2.2.2.2.2.2 x10_1 x11_1 x12_1 (((⟨#[99]⟩ : ByteArray) ++ tz33) ++ tz34) btz37.1 btz37.2.1 btz37.2.2.1 btz37.2.2.2.1 btz37.2.2.2.2.1 btz37.2.2.2.2.2.1) else (none)))) else (none))))))) else (none))) else (none))))) else (none)) = some r := by first | (rw [hyz18]; with_reducible exact H) | (have H2_ := (Option.bind_some _ _).symm.trans H; rw [hyz18]; with_reducible exact H2_) | (have H2_ := (Option.bind_some _ _).symm.trans H; with_reducible exact H2_) | with_reducible exact H | (rw [hyz18]; exact H) | exact H
  have Nyz18 := am hyz18
  clear hyz18
  by_cases c21 : 1 + (strOfNums yz18).size ≤ 9223372036854775807
  rotate_left
  ·rw [if_neg c21] at H
   exact absurd H (by simp)
  rw [if_pos c21] at H
  have c21b0 := eq_true c21
  have c21b1 : decide (1 + (strOfNums yz18).size ≤ 9223372036854775807) = true := decide_eq_true c21
  try have c21b2 : (9223372036854775807 < 1 + (strOfNums yz18).size) = False := eq_false (Nat.not_lt.2 c21)
  obtain ⟨sx22, hsx22⟩ : ∃ s_ : ByteArray, ((⟨#[102]⟩ : ByteArray) ++ (strOfNums yz18)) = s_ := ⟨_, rfl⟩
  replace H : ((columbariumlaw08_pick.f ((rd_T46 l2 x12_1).f0) 2).bind fun tz21 => (if tz21 = 0 then (if 1 ≤ ((sx22).size : Int) then ((ideal_Label.f kj14 xz15000_1 xz15001_1 xz15002_1 xz15003_1 xz15004_1 ((sx22).extract 1 (sx22).size)).bind fun btz22 => (columbariumlaw08_IdealKeeps.j2 kj14 l2 tz1 btz22.2.2.2.2.2.2 x10_1 x11_1 x12_1 sx22 btz22.1 btz22.2.1 btz22.2.2.1 btz22.2.2.2.1 btz22.2.2.2.2.1 btz22.2.2.2.2.2.1)) else (none)) else ((columbariumlaw08_Label.f ((rd_T46 l2 x12_1).f1)).bind fun tz33 => (if 1 + tz33.size ≤ 9223372036854775807 then ((columbariumlaw08_Text.f ((rd_T46 l2 x12_1).f2)).bind fun tz34 => (if ((⟨#[99]⟩ : ByteArray) ++ tz33).size + tz34.size ≤ 9223372036854775807 then ((columbariumlaw08_Label.f ((rd_T46 l2 x12_1).f1)).bind fun tz35 => ((columbariumlaw08_Text.f ((rd_T46 l2 x12_1).f2)).bind fun tz36 => ((ideal_Seal.f kj14 xz15000_1 xz15001_1 xz15002_1 xz15003_1 xz15004_1 tz35 tz36).bind fun btz37 => ((columbariumlaw08_Label.f ((rd_T46 l2 x12_1).f1)).bind fun tz48 => ((ideal_Open.f btz37.2.1 btz37.2.2.1 btz37.2.2.2.1 btz37.2.2.2.2.1 btz37.2.2.2.2.2.1 tz48 btz37.1).bind fun btz49 => (if btz49.2 = 0 then (if btz37.2.2.2.2.2.1 = true then (columbariumlaw08_IdealKeeps.j2 kj14 l2 tz1 btz37.2.2.2.2.2.2 x10_1 x11_1 x12_1 (((⟨#[99]⟩ : ByteArray) ++ tz33) ++ tz34) btz37.1 btz37.2.1 btz37.2.2.1 btz37.2.2.2.1 btz37.2.2.2.2.1 btz37.2.2.2.2.2.1) else ((columbariumlaw08_Text.f ((rd_T46 l2 x12_1).f2)).bind fun tz51 => (if btz49.1.toList = tz51.toList then (columbariumlaw08_IdealKeeps.j2 kj14 l2 tz1 btz37.2.2.2.2.2.2 x10_1 x11_1 x12_1 (((⟨#[99]⟩ : ByteArray) ++ tz33) ++ tz34) btz37.1 btz37.2.1 btz37.2.2.1 btz37.2.2.2.1 btz37.2.2.2.2.1 btz37.2.2.2.2.2.1) else (none)))) else (none))))))) else (none))) else (none))))) = some r := by first | (rw [hsx22] at H; exact H) | (simp only [hsx22] at H ⊢; exact H) | exact H
  replace H := Option.bind_eq_some_iff.mp H
  obtain ⟨tz21, A230, H⟩ := H
  replace H : (if tz21 = 0 then (if 1 ≤ ((sx22).size : Int) then ((ideal_Label.f kj14 xz15000_1 xz15001_1 xz15002_1 xz15003_1 xz15004_1 ((sx22).extract 1 (sx22).size)).bind fun btz22 => (columbariumlaw08_IdealKeeps.j2 kj14 l2 tz1 btz22.2.2.2.2.2.2 x10_1 x11_1 x12_1 sx22 btz22.1 btz22.2.1 btz22.2.2.1 btz22.2.2.2.1 btz22.2.2.2.2.1 btz22.2.2.2.2.2.1)) else (none)) else ((columbariumlaw08_Label.f ((rd_T46 l2 x12_1).f1)).bind fun tz33 => (if 1 + tz33.size ≤ 9223372036854775807 then ((columbariumlaw08_Text.f ((rd_T46 l2 x12_1).f2)).bind fun tz34 => (if ((⟨#[99]⟩ : ByteArray) ++ tz33).size + tz34.size ≤ 9223372036854775807 then ((columbariumlaw08_Label.f ((rd_T46 l2 x12_1).f1)).bind fun tz35 => ((columbariumlaw08_Text.f ((rd_T46 l2 x12_1).f2)).bind fun tz36 => ((ideal_Seal.f kj14 xz15000_1 xz15001_1 xz15002_1 xz15003_1 xz15004_1 tz35 tz36).bind fun btz37 => ((columbariumlaw08_Label.f ((rd_T46 l2 x12_1).f1)).bind fun tz48 => ((ideal_Open.f btz37.2.1 btz37.2.2.1 btz37.2.2.2.1 btz37.2.2.2.2.1 btz37.2.2.2.2.2.1 tz48 btz37.1).bind fun btz49 => (if btz49.2 = 0 then (if btz37.2.2.2.2.2.1 = true then (columbariumlaw08_IdealKeeps.j2 kj14 l2 tz1 btz37.2.2.2.2.2.2 x10_1 x11_1 x12_1 (((⟨#[99]⟩ : ByteArray) ++ tz33) ++ tz34) btz37.1 btz37.2.1 btz37.2.2.1 btz37.2.2.2.1 btz37.2.2.2.2.1 btz37.2.2.2.2.2.1) else ((columbariumlaw08_Text.f ((rd_T46 l2 x12_1).f2)).bind fun tz51 => (if btz49.1.toList = tz51.toList then (columbariumlaw08_IdealKeeps.j2 kj14 l2 tz1 btz37.2.2.2.2.2.2 x10_1 x11_1 x12_1 (((⟨#[99]⟩ : ByteArray) ++ tz33) ++ tz34) btz37.1 btz37.2.1 btz37.2.2.1 btz37.2.2.2.1 btz37.2.2.2.2.1 btz37.2.2.2.2.2.1) else (none)))) else (none))))))) else (none))) else (none)))) = some r := H
  have A23 := Aside0.mk A230
  clear A230
  have HC24 := am H
  clear H
  have pz15 : 0 ≤ (x12_1 : Int) := of_decide_eq_true (by first | (with_reducible assumption) | assumption)
  have qz15 : x12_1 < (l2.length : Int) := of_decide_eq_true (by first | (with_reducible assumption) | assumption)
  obtain ⟨adz15, ez15, hxz15_0, hxz15_1, hxz15_2⟩ := at_T46 HR2.out x12_1 pz15 qz15
  cases ez15
  replace hxz15_0 := (HB.out.cell (World.block_lt_of_cell? w _ hxz15_0)).trans hxz15_0
  replace hxz15_1 := (HB.out.cell (World.block_lt_of_cell? w _ hxz15_1)).trans hxz15_1
  replace hxz15_2 := (HB.out.cell (World.block_lt_of_cell? w _ hxz15_2)).trans hxz15_2
  replace pz15 := eq_true pz15
  replace qz15 := eq_true qz15
  go_upto_if 54 with (first | ((with_reducible refine gate_dst (N := 13) rfl ?_); refine box_event ?hg (N := 13) ?hd (cs := #[.int .i64 0, .int .i64 0, .int .i64 0]) (t := 46) ?hr ?_; (case hd => rfl); (case hg => rfl); (case hr => first | (go_simp; done) | (go_simp; rfl)); intro gbz16 hg w25 hbox hb; have n0_ := am (Kd.R_below (pr HO_10) hb); have n1_ := am (Kd.R_below (pr HO_11) hb); have n2_ := am (Kd.R_below (pr HO_z15002) hb); have n3_ := am (Kd.R_below (pr HO_z15003) hb); have n4_ := am (blk_below (pk BKz14) hb); have n5_ := am (below_step (by repeat (first | (with_reducible first | exact HB.out | apply below_alloc | apply pw_below_drewN | apply below_drew1 | refine below_set ?_ GEz14.out) | exact HB.out)) hb); have n6_ := am (hbox); have n7_ := am ((by rw [hg]; exact (below_size (by repeat (first | (with_reducible first | exact HB.out | apply below_alloc | apply pw_below_drewN | apply below_drew1 | refine below_set ?_ GEz14.out) | exact HB.out))) : w.heap.size ≤ gbz16)); have n8_ := am ((by rw [hg]; exact (below_size (by repeat (first | (with_reducible first | exact HB.out | apply below_alloc | apply pw_below_drewN | apply below_drew1 | refine below_set ?_ GEz14.out) | exact HB.out))) : w.heap.size ≤ gbz16)); have n9_ := am ((by rw [hg]; exact Nat.ne_of_lt (blk_lt (g := gbz14) (o := .cells #[.string xz15000_1, .int .i64 xz15001_1, uz15002, uz15003, .bool xz15004_1] 50 (0, 0)) (pk BKz14)) : gbz14 ≠ gbz16)); have n10_ := am ((by rw [hg]; exact Nat.ne_of_gt (blk_lt (g := gbz14) (o := .cells #[.string xz15000_1, .int .i64 xz15001_1, uz15002, uz15003, .bool xz15004_1] 50 (0, 0)) (pk BKz14)) : gbz16 ≠ gbz14)); clear HO_10; clear HO_11; clear HO_z15002; clear HO_z15003; clear BKz14; clear HB; have HO_10 := n0_; have HO_11 := n1_; have HO_z15002 := n2_; have HO_z15003 := n3_; have BKz14 := n4_; have HB := n5_; have BKz16 := n6_; have GWz16 := n7_; have GEz16 := n8_; have NBz14_z16 := n9_; have NBz16_z14 := n10_; clear n0_ n1_ n2_ n3_ n4_ n5_ n6_ n7_ n8_ n9_ n10_; clear hb hbox hg; have hnb26 := NBz16_z14.out; have hnc26 := NBz14_z16.out; have hcz27_0 : w25.cell? ⟨gbz16, 0, none⟩ = some (.int .i64 0) := (blk_cell BKz16.out 0).trans rfl; have hcz27_1 : w25.cell? ⟨gbz16, 1, none⟩ = some (.int .i64 0) := (blk_cell BKz16.out 1).trans rfl; have hcz27_2 : w25.cell? ⟨gbz16, 2, none⟩ = some (.int .i64 0) := (blk_cell BKz16.out 2).trans rfl; have hfz27_0 := blk_frozen BKz16.out 0; have hfz27_1 := blk_frozen BKz16.out 1; have hfz27_2 := blk_frozen BKz16.out 2) | ((with_reducible refine gate_callee (f := 34) rfl ?_); refine goesL_ (some 46) rfl rfl Try.func34 (by kernel_rfl) rfl #[.int .i64 ((rd_T46 l2 x12_1).f1), .int .i64 6] rfl (by (try simp only [List.map_toArray, List.map_cons, List.map_nil]); first | done | rfl | (simp only [List.length_drop, List.length_take]; rfl)) ?_; (with_reducible refine (columbariumlaw08_pick.calls ((rd_T46 l2 x12_1).f1) 6 tz17 _ A20.out).mono ?_); rintro e w' ⟨rfl, ⟨nd, rfl⟩⟩; refine ⟨_, rfl, ?_⟩) | ((with_reducible refine gate_dst (N := 48) rfl ?_); refine Kd.R_lit (Kd.int .u8) _ 5 ?hg (N := 48) ?hd (xs := ([(tz17) % 256] : List Int)) (inner := [.int .u8 ((tz17) % 256)]) (ok := fun _ => True) (okp := fun _ => True) ?hr ?hp (fun _ hk => hk) trivial (Below.refl _ _) (Nat.le_refl _) (by simp) ?_; (case hd => rfl); (case hg => rfl); (case hr => first | (go_simp; done) | (go_simp; rfl)); (case hp => exact (Reps.one (show Kd.M (Kd.int .u8) _ _ _ ((tz17) % 256) [.int .u8 ((tz17) % 256)] from rfl) (Reps.none _ _))); intro vz19 w28 ho29 hb hg_ hnew_; clear hg_ hnew_; (first | rw [← Nyz18.out] at ho29 | (simp only [Int.reduceToNat] at ho29; rw [← Nyz18.out] at ho29)); have n0_ := am (Kd.R_below (by (with_reducible repeat (first | apply Kd.R_alloc | apply Kd.R_drewN | apply Kd.R_drew)); exact (Kd.R_mono (rf3 (Kd.R_types HO_10.out BKz16.out (by decide)) (fun _ hk => hk.2)) (fun _ h_ => h_.1))) hb); have n1_ := am (Kd.R_below (by (with_reducible repeat (first | apply Kd.R_alloc | apply Kd.R_drewN | apply Kd.R_drew)); exact (Kd.R_mono (rf3 (Kd.R_types HO_11.out BKz16.out (by decide)) (fun _ hk => hk.2)) (fun _ h_ => h_.1))) hb); have n2_ := am (Kd.R_below (by (with_reducible repeat (first | apply Kd.R_alloc | apply Kd.R_drewN | apply Kd.R_drew)); exact (Kd.R_mono (rf3 (Kd.R_types HO_z15002.out BKz16.out (by decide)) (fun _ hk => hk.2)) (fun _ h_ => h_.1))) hb); have n3_ := am (Kd.R_below (by (with_reducible repeat (first | apply Kd.R_alloc | apply Kd.R_drewN | apply Kd.R_drew)); exact (Kd.R_mono (rf3 (Kd.R_types HO_z15003.out BKz16.out (by decide)) (fun _ hk => hk.2)) (fun _ h_ => h_.1))) hb); have n4_ := am (Kd.R_lower ho29 (below_size (by repeat (first | (with_reducible first | exact HB.out | apply below_alloc | apply pw_below_drewN | apply below_drew1 | refine below_set ?_ GEz14.out | refine below_set ?_ GEz16.out) | exact HB.out)))); have n5_ := am (blk_below (g := gbz14) (o := .cells #[.string xz15000_1, .int .i64 xz15001_1, uz15002, uz15003, .bool xz15004_1] 50 (0, 0)) (by (with_reducible repeat (first | refine blk_drewN ?_ _ | refine blk_drew ?_ | refine blk_alloc ?_ _)); refine blk_far ?_ NBz14_z16.out _; (with_reducible repeat (first | refine blk_drewN ?_ _ | refine blk_drew ?_ | refine blk_alloc ?_ _)); refine blk_far ?_ NBz14_z16.out _; (with_reducible repeat (first | refine blk_drewN ?_ _ | refine blk_drew ?_ | refine blk_alloc ?_ _)); refine blk_far ?_ NBz14_z16.out _; (with_reducible repeat (first | refine blk_drewN ?_ _ | refine blk_drew ?_ | refine blk_alloc ?_ _)); exact BKz14.out) hb); have n6_ := am (blk_below (g := gbz16) (o := .cells #[.int .i64 ((rd_T46 l2 x12_1).f0), .int .i64 ((rd_T46 l2 x12_1).f1), .int .i64 ((rd_T46 l2 x12_1).f2)] 46 (0, 0)) (by (with_reducible repeat (first | refine blk_drewN ?_ _ | refine blk_drew ?_ | refine blk_alloc ?_ _)); refine blk_put (cs := #[.int .i64 ((rd_T46 l2 x12_1).f0), .int .i64 ((rd_T46 l2 x12_1).f1), .int .i64 0]) ?_ 2 _ rfl; (with_reducible repeat (first | refine blk_drewN ?_ _ | refine blk_drew ?_ | refine blk_alloc ?_ _)); refine blk_put (cs := #[.int .i64 ((rd_T46 l2 x12_1).f0), .int .i64 0, .int .i64 0]) ?_ 1 _ rfl; (with_reducible repeat (first | refine blk_drewN ?_ _ | refine blk_drew ?_ | refine blk_alloc ?_ _)); refine blk_put (cs := #[.int .i64 0, .int .i64 0, .int .i64 0]) ?_ 0 _ rfl; (with_reducible repeat (first | refine blk_drewN ?_ _ | refine blk_drew ?_ | refine blk_alloc ?_ _)); exact BKz16.out) hb); have n7_ := am (below_step (by repeat (first | (with_reducible first | exact HB.out | apply below_alloc | apply pw_below_drewN | apply below_drew1 | refine below_set ?_ GEz14.out | refine below_set ?_ GEz16.out) | exact HB.out)) hb); clear HO_10; clear HO_11; clear HO_z15002; clear HO_z15003; clear BKz14; clear BKz16; clear HB; have HO_10 := n0_; have HO_11 := n1_; have HO_z15002 := n2_; have HO_z15003 := n3_; have HOz20 := n4_; have BKz14 := n5_; have BKz16 := n6_; have HB := n7_; clear n0_ n1_ n2_ n3_ n4_ n5_ n6_ n7_; clear hb ho29; have hcv30 := own_string (P := Try.prog) Try.underlying57 Try.underlying5 Try.underlying9 (Kd.own_of_R HOz20.out); have hcz31_0 : w28.cell? ⟨gbz16, 0, none⟩ = some (.int .i64 ((rd_T46 l2 x12_1).f0)) := (blk_cell BKz16.out 0).trans rfl; have hcz31_1 : w28.cell? ⟨gbz16, 1, none⟩ = some (.int .i64 ((rd_T46 l2 x12_1).f1)) := (blk_cell BKz16.out 1).trans rfl; have hcz31_2 : w28.cell? ⟨gbz16, 2, none⟩ = some (.int .i64 ((rd_T46 l2 x12_1).f2)) := (blk_cell BKz16.out 2).trans rfl; have hfz31_0 := blk_frozen BKz16.out 0; have hfz31_1 := blk_frozen BKz16.out 1; have hfz31_2 := blk_frozen BKz16.out 2) | ((with_reducible refine gate_callee (f := 34) rfl ?_); refine goesL_ (some 53) rfl rfl Try.func34 (by kernel_rfl) rfl #[.int .i64 ((rd_T46 l2 x12_1).f0), .int .i64 2] rfl (by (try simp only [List.map_toArray, List.map_cons, List.map_nil]); first | done | rfl | (simp only [List.length_drop, List.length_take]; rfl)) ?_; (with_reducible refine (columbariumlaw08_pick.calls ((rd_T46 l2 x12_1).f0) 2 tz21 _ A23.out).mono ?_); rintro e w' ⟨rfl, ⟨nd, rfl⟩⟩; refine ⟨_, rfl, ?_⟩))
  (try simp only [Act.put, List.setIfInBounds_toArray, List.set_cons_zero, List.set_cons_succ])
  go_cut [9, 14, 15] (fun v9 v14 v15 wc => ∃ (kq : Nat) (x9_23 : Int) (x14_23 : ByteArray) (x15_23 : ByteArray) (xz15000_23 : ByteArray) (xz15001_23 : Int) (xz15002_23 : List (S72)) (xz15003_23 : List (S74)) (xz15004_23 : Bool) (uz15002 : Value) (uz15003 : Value), v9 = .int .i64 x9_23 ∧ v14 = .string x14_23 ∧ v15 = .string x15_23 ∧ Aside0 (columbariumlaw08_IdealKeeps.j2 kq l2 tz1 x9_23 x10_1 x11_1 x12_1 x14_23 x15_23 xz15000_23 xz15001_23 xz15002_23 xz15003_23 xz15004_23 = some r) ∧ Aside0 (kq ≤ kj14) ∧ Aside0 (Kd.R Kd.string 9 wc w.heap.size (fun k_ => some k_ ≠ (u11 : Value).ownBlock) u10 x10_1) ∧ Aside0 (Kd.R Kd.string 9 wc w.heap.size (fun k_ => some k_ ≠ (u10 : Value).ownBlock) u11 x11_1) ∧ Aside0 (Kd.R k72 72 wc w.heap.size (fun _ => True) uz15002 xz15002_23) ∧ Aside0 (Kd.R k74 74 wc w.heap.size (fun _ => True) uz15003 xz15003_23) ∧ Aside0 (wc.heap[gbz14]? = some (.cells #[.string xz15000_23, .int .i64 xz15001_23, uz15002, uz15003, .bool xz15004_23] 50 (0, 0))) ∧ Aside0 (wc.heap[gbz16]? = some (.cells #[.int .i64 ((rd_T46 l2 x12_1).f0), .int .i64 ((rd_T46 l2 x12_1).f1), .int .i64 ((rd_T46 l2 x12_1).f2)] 46 (0, 0))) ∧ Aside0 (Below w.heap.size w wc))
  case first =>
   as_aux_lemma =>
    have H := HC24.out
    clear HC24
    by_cases c32 : tz21 = 0
    ·rw [if_pos c32] at H
     have c32b0 : (tz21 == 0) = true := beq_iff_eq.mpr c32
     have c32b1 : (tz21 != 0) = false := bne_eq_false_iff_eq.mpr c32
     clear c32
     (first | rw [c32b0] | rw [c32b1] | (simp only [i64_w, i32_w]; rw [c32b0]) | skip)
     by_cases c33 : 1 ≤ ((sx22).size : Int)
     rotate_left
     ·rw [if_neg c33] at H
      exact absurd H (by simp)
     rw [if_pos c33] at H
     have c33b0 := eq_true c33
     have c33b1 : decide (1 ≤ ((sx22).size : Int)) = true := decide_eq_true c33
     clear c33
     obtain ⟨sx34, hsx34⟩ : ∃ s_ : ByteArray, ((sx22).extract 1 (sx22).size) = s_ := ⟨_, rfl⟩
     replace H : ((ideal_Label.f kj14 xz15000_1 xz15001_1 xz15002_1 xz15003_1 xz15004_1 (sx34)).bind fun btz22 => (columbariumlaw08_IdealKeeps.j2 kj14 l2 tz1 btz22.2.2.2.2.2.2 x10_1 x11_1 x12_1 sx22 btz22.1 btz22.2.1 btz22.2.2.1 btz22.2.2.2.1 btz22.2.2.2.2.1 btz22.2.2.2.2.2.1)) = some r := by first | (rw [hsx34] at H; exact H) | (simp only [hsx34] at H ⊢; exact H) | exact H
     replace H := Option.bind_eq_some_iff.mp H
     obtain ⟨⟨tz22, tz23, tz24, tz25, tz28, tz31, tz32⟩, A350, H⟩ := H
     replace H : (columbariumlaw08_IdealKeeps.j2 kj14 l2 tz1 tz32 x10_1 x11_1 x12_1 sx22 tz22 tz23 tz24 tz25 tz28 tz31) = some r := H
     have A35 := Aside0.mk A350
     clear A350
     have H' := am H
     clear H
     try go_wp2
     have n0_ := am (Kd.R_drew (Kd.R_drewN HO_10.out nd))
     have n1_ := am (Kd.R_drew (Kd.R_drewN HO_11.out nd))
     have n2_ := am (Kd.R_drew (Kd.R_drewN HO_z15002.out nd))
     have n3_ := am (Kd.R_drew (Kd.R_drewN HO_z15003.out nd))
     have n4_ := am (Kd.R_drew (Kd.R_drewN HOz20.out nd))
     have n5_ := am (blk_drew (blk_drewN BKz14.out nd))
     have n6_ := am (blk_drew (blk_drewN BKz16.out nd))
     have n7_ := am (below_drew1 (pw_below_drewN HB.out nd))
     clear HO_10 HO_11 HO_z15002 HO_z15003 HOz20 BKz14 BKz16 HB; have HO_10 := n0_; have HO_11 := n1_; have HO_z15002 := n2_; have HO_z15003 := n3_; have HOz20 := n4_; have BKz14 := n5_; have BKz16 := n6_; have HB := n7_; clear n0_ n1_ n2_ n3_ n4_ n5_ n6_ n7_
     obtain ⟨Ao37, co37, eo37⟩ := Kd.R_slice HO_z15002.out
     (first | subst eo37 | (injection eo37 with f1_ f2_ f3_; have f4_ := f1_.symm; have f5_ := f3_.symm; clear f1_ f2_ f3_; subst f4_; subst f5_))
     obtain ⟨Ao38, co38, eo38⟩ := Kd.R_slice HO_z15003.out
     (first | subst eo38 | (injection eo38 with f1_ f2_ f3_; have f4_ := f1_.symm; have f5_ := f3_.symm; clear f1_ f2_ f3_; subst f4_; subst f5_))
     refine start_ (n := 11) (S := fun w' => w'.cell? ⟨gbz14, 0, none⟩ = some (.string xz15000_1) ∧ w'.cell? ⟨gbz14, 1, none⟩ = some (.int .i64 xz15001_1) ∧ w'.cell? ⟨gbz14, 2, none⟩ = some (.slice Ao37 xz15002_1.length co37) ∧ w'.cell? ⟨gbz14, 3, none⟩ = some (.slice Ao38 xz15003_1.length co38) ∧ w'.cell? ⟨gbz14, 4, none⟩ = some (.bool xz15004_1)) (ds := [9]) #[false, false, false, false, false, false, false, false, false, false, false] (by kernel_rfl) rfl rfl (bc5 BKz14) (fun hHeld => ?_); refine with_tabW columbariumlaw08_IdealKeeps.tab14 columbariumlaw08_IdealKeeps.bits14 (fun HT_ HW_ => ?_)
     generalize (w28.drewN nd).drew = w36 at HO_10 HO_11 HO_z15002 HO_z15003 HOz20 BKz14 BKz16 HB hHeld ⊢
     refine pu_ 1 (some 57) HT_ rfl rfl (by kernel_rfl) (fun _ _ _ h => h) (.inl ⟨by rfl, by intro w'; go_simp; with_reducible rfl⟩) (by simp only [Act.put, sa_, s0_, s1_, i64_w, i32_w]; rfl) ?_
     refine pu_ 2 (some 58) HT_ rfl rfl (by kernel_rfl) (fun _ _ _ h => h) (.inl ⟨by rfl, by intro w'; go_simp; with_reducible rfl⟩) (by simp only [Act.put, sa_, s0_, s1_, i64_w, i32_w]; rfl) ?_
     refine tk_ 0 (some 56) HT_ HW_ rfl rfl (by kernel_rfl) (fun _ _ _ h => h) (.inl ⟨by rfl, by rintro w' ⟨s0, s1, s2, s3, s4⟩; go_simp; with_reducible rfl⟩) hHeld (by simp only [Act.put, sa_, s0_, s1_, i64_w, i32_w]; rfl) ?_
     refine on_ 3 (some 59) HT_ rfl rfl (by kernel_rfl) (by decide) (fun K hK => ?_)
     refine goes_ Try.func35 (by kernel_rfl) rfl #[.agg #[.string xz15000_1, .int .i64 xz15001_1, .slice Ao37 xz15002_1.length co37, .slice Ao38 xz15003_1.length co38, .bool xz15004_1], .string sx34] (by rfl) rfl rfl (by (try simp only [List.map_toArray, List.map_cons, List.map_nil]); first | done | rfl | (simp only [List.length_drop, List.length_take]; rfl)) ?_
     with_reducible refine (ideal_Label.calls kj14 xz15000_1 xz15001_1 _ _ xz15002_1 _ _ xz15003_1 xz15004_1 sx34 tz22 tz23 tz24 tz25 tz28 tz31 tz32 _ ?side1 ?side2 ?side3 ?side4 A35.out).mono ?_
     (case side1 => repeat (first | exact (Kd.R_reads' HO_z15002.out).2.2 | (with_reducible refine Kd.C_alloc ?_ _) | (with_reducible refine Kd.C_drewN ?_ _) | (with_reducible refine Kd.C_drew ?_)))
     (case side2 => exact (Kd.R_reads' HO_z15002.out).2.1)
     (case side3 => repeat (first | exact (Kd.R_reads' HO_z15003.out).2.2 | (with_reducible refine Kd.C_alloc ?_ _) | (with_reducible refine Kd.C_drewN ?_ _) | (with_reducible refine Kd.C_drew ?_)))
     (case side4 => exact (Kd.R_reads' HO_z15003.out).2.1)
     rintro e w39 ⟨vz26, vz29, rfl, ho0, ho1, hb⟩
     refine ⟨_, rfl, ?_⟩
     have n0_ := am (Kd.R_below (pr HO_10) hb)
     have n1_ := am (Kd.R_below (pr HO_11) hb)
     have n2_ := am (Kd.R_elder' (pr HO_z15002) (Kd.R_base ho0) hb)
     have n3_ := am (Kd.R_elder' (pr HO_z15003) (Kd.R_base ho1) hb)
     have n4_ := am (Kd.R_below (pr HOz20) hb)
     have n5_ := am (Kd.R_lower (Kd.R_new' ho0 (Kd.R_lt (pr HO_z15002))) (below_size (by repeat (first | (with_reducible first | exact HB.out | apply below_alloc | apply pw_below_drewN | apply below_drew1 | refine below_set ?_ GEz14.out | refine below_set ?_ GEz16.out) | exact HB.out))))
     have n6_ := am (Kd.R_lower (Kd.R_new' ho1 (Kd.R_lt (pr HO_z15003))) (below_size (by repeat (first | (with_reducible first | exact HB.out | apply below_alloc | apply pw_below_drewN | apply below_drew1 | refine below_set ?_ GEz14.out | refine below_set ?_ GEz16.out) | exact HB.out))))
     have n7_ := am (blk_below (pk BKz14) hb)
     have n8_ := am (blk_below (pk BKz16) hb)
     have n9_ := am (below_step (by repeat (first | (with_reducible first | exact HB.out | apply below_alloc | apply pw_below_drewN | apply below_drew1 | refine below_set ?_ GEz14.out | refine below_set ?_ GEz16.out) | exact HB.out)) hb)
     clear HO_10 HO_11 HO_z15002 HO_z15003 HOz20 BKz14 BKz16 HB; have HO_10 := n0_; have HO_11 := n1_; have HO_z15002 := n2_; have HO_z15003 := n3_; have HOz20 := n4_; have HOz27 := n5_; have HOz30 := n6_; have BKz14 := n7_; have BKz16 := n8_; have HB := n9_; clear n0_ n1_ n2_ n3_ n4_ n5_ n6_ n7_ n8_ n9_; (try clear hb); (try clear hb2); (try clear hk); (try clear hi); (try clear ho0); (try clear ho1)
     obtain ⟨Ao42, co42, eo42⟩ := Kd.R_slice HOz27.out
     (first | subst eo42 | (injection eo42 with f1_ f2_ f3_; have f4_ := f1_.symm; have f5_ := f3_.symm; clear f1_ f2_ f3_; subst f4_; subst f5_))
     obtain ⟨Ao44, co44, eo44⟩ := Kd.R_slice HOz30.out
     (first | subst eo44 | (injection eo44 with f1_ f2_ f3_; have f4_ := f1_.symm; have f5_ := f3_.symm; clear f1_ f2_ f3_; subst f4_; subst f5_))
     refine hK.out _ _ (bc5 BKz14) (fun hHeld => ?_)
     clear hK K
     refine norm_ (by show Act.put _ (some 59) _ = _; simp only [Act.put, sa_, s0_, s1_, i64_w, i32_w]; rfl) ?_
     refine pu_ 4 (some 55) HT_ rfl rfl (by kernel_rfl) (fun _ _ _ h => h) (.inl ⟨by rfl, by intro w'; go_simp; with_reducible rfl⟩) (by simp only [Act.put, sa_, s0_, s1_, i64_w, i32_w]; rfl) ?_
     refine pu_ 5 (some 60) HT_ rfl rfl (by kernel_rfl) (fun _ _ _ h => h) (.inl ⟨by rfl, by intro w'; go_simp; with_reducible rfl⟩) (by simp only [Act.put, sa_, s0_, s1_, i64_w, i32_w]; rfl) ?_
     refine pu_ 6 (some 61) HT_ rfl rfl (by kernel_rfl) (fun _ _ _ h => h) (.inl ⟨by rfl, by intro w'; go_simp; with_reducible rfl⟩) (by simp only [Act.put, sa_, s0_, s1_, i64_w, i32_w]; rfl) ?_
     refine pu_ 7 (some 62) HT_ rfl rfl (by kernel_rfl) (fun _ _ _ h => h) (.inl ⟨by rfl, by intro w'; go_simp; with_reducible rfl⟩) (by simp only [Act.put, sa_, s0_, s1_, i64_w, i32_w]; rfl) ?_
     refine pu_ 8 (some 15) HT_ rfl rfl (by kernel_rfl) (fun _ _ _ h => h) (.inl ⟨by rfl, by intro w'; go_simp; with_reducible rfl⟩) (by simp only [Act.put, sa_, s0_, s1_, i64_w, i32_w]; rfl) ?_
     refine la_ 9 none HT_ rfl rfl (by kernel_rfl) (by decide) (fun K hK => ?_)
     have hs40 : w39.cell? ⟨gbz14, 0, none⟩ = some (.string xz15000_1) := (blk_cell BKz14.out 0).trans rfl
     have hfs40 := blk_frozen BKz14.out 0
     have hns40_1 := NBz16_z14.out
     have hms40_1 := NBz14_z16.out
     have hs41 : w39.cell? ⟨gbz14, 1, none⟩ = some (.int .i64 xz15001_1) := (blk_cell BKz14.out 1).trans rfl
     have hfs41 := blk_frozen BKz14.out 1
     have hns41_1 := NBz16_z14.out
     have hms41_1 := NBz14_z16.out
     have hs43 : w39.cell? ⟨gbz14, 2, none⟩ = some (.slice Ao37 xz15002_1.length co37) := (blk_cell BKz14.out 2).trans rfl
     have hfs43 := blk_frozen BKz14.out 2
     have hns43_1 := NBz16_z14.out
     have hms43_1 := NBz14_z16.out
     have hs45 : w39.cell? ⟨gbz14, 3, none⟩ = some (.slice Ao38 xz15003_1.length co38) := (blk_cell BKz14.out 3).trans rfl
     have hfs45 := blk_frozen BKz14.out 3
     have hns45_1 := NBz16_z14.out
     have hms45_1 := NBz14_z16.out
     have hs46 : w39.cell? ⟨gbz14, 4, none⟩ = some (.bool xz15004_1) := (blk_cell BKz14.out 4).trans rfl
     have hfs46 := blk_frozen BKz14.out 4
     have hns46_1 := NBz16_z14.out
     have hms46_1 := NBz14_z16.out
     refine skip_ (by rfl) rfl (by go_simp; rfl) ?_
     refine hK.out _ _ ?_
     clear hK K
     refine pu_ 10 (some 9) HT_ rfl rfl (by kernel_rfl) (fun _ _ _ h => h) (.inl ⟨by rfl, by intro w'; go_simp; with_reducible rfl⟩) (by simp only [Act.put, sa_, s0_, s1_, i64_w, i32_w]; rfl) ?_
     refine done_ (done_of HT_.out (by kernel_rfl)) ?_
     try go_wp2
     go_meet
     case rel => exact ⟨_, (tz32), (sx22), (tz22), (tz23), (tz24), (tz25), (tz28), (tz31), (.slice Ao42 tz25.length co42), (.slice Ao44 tz28.length co44), (by first | rfl | (simp; done) | (simp [*]; done)), (by first | rfl | (simp; done) | (simp only [← hsx22] <;> (first | rfl | simp)) | (simp [*]; done)), (by first | rfl | (simp; done) | (simp [*]; done)), H', ⟨by have := HK1.out; have := HJ14.out; first | omega | exact Nat.le_refl _⟩, ⟨by (with_reducible repeat (first | apply Kd.R_alloc | apply Kd.R_drewN | apply Kd.R_drew)); exact Kd.R_mono (rf5 (Kd.R_types HO_10.out BKz14.out (by decide)) (fun _ hk => hk.2)) (fun _ hk => hk.1)⟩, ⟨by (with_reducible repeat (first | apply Kd.R_alloc | apply Kd.R_drewN | apply Kd.R_drew)); exact Kd.R_mono (rf5 (Kd.R_types HO_11.out BKz14.out (by decide)) (fun _ hk => hk.2)) (fun _ hk => hk.1)⟩, ⟨by (with_reducible repeat (first | apply Kd.R_alloc | apply Kd.R_drewN | apply Kd.R_drew)); exact Kd.R_mono (rf5 (Kd.R_types HOz27.out BKz14.out (by decide)) (fun _ hk => hk.2)) (fun _ hk => trivial)⟩, ⟨by (with_reducible repeat (first | apply Kd.R_alloc | apply Kd.R_drewN | apply Kd.R_drew)); exact Kd.R_mono (rf5 (Kd.R_types HOz30.out BKz14.out (by decide)) (fun _ hk => hk.2)) (fun _ hk => trivial)⟩, ⟨by (with_reducible repeat (first | refine blk_drewN ?_ _ | refine blk_drew ?_ | refine blk_alloc ?_ _)); refine blk_put (cs := #[.string tz23, .int .i64 tz24, .slice Ao42 tz25.length co42, .slice Ao44 tz28.length co44, .bool xz15004_1]) ?_ 4 _ rfl; (with_reducible repeat (first | refine blk_drewN ?_ _ | refine blk_drew ?_ | refine blk_alloc ?_ _)); refine blk_put (cs := #[.string tz23, .int .i64 tz24, .slice Ao42 tz25.length co42, .slice Ao38 xz15003_1.length co38, .bool xz15004_1]) ?_ 3 _ rfl; (with_reducible repeat (first | refine blk_drewN ?_ _ | refine blk_drew ?_ | refine blk_alloc ?_ _)); refine blk_put (cs := #[.string tz23, .int .i64 tz24, .slice Ao37 xz15002_1.length co37, .slice Ao38 xz15003_1.length co38, .bool xz15004_1]) ?_ 2 _ rfl; (with_reducible repeat (first | refine blk_drewN ?_ _ | refine blk_drew ?_ | refine blk_alloc ?_ _)); refine blk_put (cs := #[.string tz23, .int .i64 xz15001_1, .slice Ao37 xz15002_1.length co37, .slice Ao38 xz15003_1.length co38, .bool xz15004_1]) ?_ 1 _ rfl; (with_reducible repeat (first | refine blk_drewN ?_ _ | refine blk_drew ?_ | refine blk_alloc ?_ _)); refine blk_put (cs := #[.string xz15000_1, .int .i64 xz15001_1, .slice Ao37 xz15002_1.length co37, .slice Ao38 xz15003_1.length co38, .bool xz15004_1]) ?_ 0 _ rfl; (with_reducible repeat (first | refine blk_drewN ?_ _ | refine blk_drew ?_ | refine blk_alloc ?_ _)); exact BKz14.out⟩, ⟨by (with_reducible repeat (first | refine blk_drewN ?_ _ | refine blk_drew ?_ | refine blk_alloc ?_ _)); refine blk_far ?_ NBz16_z14.out _; (with_reducible repeat (first | refine blk_drewN ?_ _ | refine blk_drew ?_ | refine blk_alloc ?_ _)); refine blk_far ?_ NBz16_z14.out _; (with_reducible repeat (first | refine blk_drewN ?_ _ | refine blk_drew ?_ | refine blk_alloc ?_ _)); refine blk_far ?_ NBz16_z14.out _; (with_reducible repeat (first | refine blk_drewN ?_ _ | refine blk_drew ?_ | refine blk_alloc ?_ _)); refine blk_far ?_ NBz16_z14.out _; (with_reducible repeat (first | refine blk_drewN ?_ _ | refine blk_drew ?_ | refine blk_alloc ?_ _)); refine blk_far ?_ NBz16_z14.out _; (with_reducible repeat (first | refine blk_drewN ?_ _ | refine blk_drew ?_ | refine blk_alloc ?_ _)); exact BKz16.out⟩, ⟨by repeat (first | (with_reducible first | exact HB.out | apply below_alloc | apply pw_below_drewN | apply below_drew1 | refine below_set ?_ GEz14.out | refine below_set ?_ GEz16.out) | exact HB.out)⟩⟩
    as_aux_lemma =>
     rw [if_neg c32] at H
     have c32b0 : (tz21 == 0) = false := beq_eq_false_iff_ne.mpr c32
     have c32b1 : (tz21 != 0) = true := bne_iff_ne.mpr c32
     (first | rw [c32b0] | rw [c32b1] | (simp only [i64_w, i32_w]; rw [c32b0]) | skip)
     replace H := Option.bind_eq_some_iff.mp H
     obtain ⟨tz33, A470, H⟩ := H
     replace H : (if 1 + tz33.size ≤ 9223372036854775807 then ((columbariumlaw08_Text.f ((rd_T46 l2 x12_1).f2)).bind fun tz34 => (if ((⟨#[99]⟩ : ByteArray) ++ tz33).size + tz34.size ≤ 9223372036854775807 then ((columbariumlaw08_Label.f ((rd_T46 l2 x12_1).f1)).bind fun tz35 => ((columbariumlaw08_Text.f ((rd_T46 l2 x12_1).f2)).bind fun tz36 => ((ideal_Seal.f kj14 xz15000_1 xz15001_1 xz15002_1 xz15003_1 xz15004_1 tz35 tz36).bind fun btz37 => ((columbariumlaw08_Label.f ((rd_T46 l2 x12_1).f1)).bind fun tz48 => ((ideal_Open.f btz37.2.1 btz37.2.2.1 btz37.2.2.2.1 btz37.2.2.2.2.1 btz37.2.2.2.2.2.1 tz48 btz37.1).bind fun btz49 => (if btz49.2 = 0 then (if btz37.2.2.2.2.2.1 = true then (columbariumlaw08_IdealKeeps.j2 kj14 l2 tz1 btz37.2.2.2.2.2.2 x10_1 x11_1 x12_1 (((⟨#[99]⟩ : ByteArray) ++ tz33) ++ tz34) btz37.1 btz37.2.1 btz37.2.2.1 btz37.2.2.2.1 btz37.2.2.2.2.1 btz37.2.2.2.2.2.1) else ((columbariumlaw08_Text.f ((rd_T46 l2 x12_1).f2)).bind fun tz51 => (if btz49.1.toList = tz51.toList then (columbariumlaw08_IdealKeeps.j2 kj14 l2 tz1 btz37.2.2.2.2.2.2 x10_1 x11_1 x12_1 (((⟨#[99]⟩ : ByteArray) ++ tz33) ++ tz34) btz37.1 btz37.2.1 btz37.2.2.1 btz37.2.2.2.1 btz37.2.2.2.2.1 btz37.2.2.2.2.2.1) else (none)))) else (none))))))) else (none))) else (none)) = some r := H
     have A47 := Aside0.mk A470
     clear A470
     by_cases c48 : 1 + tz33.size ≤ 9223372036854775807
     rotate_left
     ·rw [if_neg c48] at H
      exact absurd H (by simp)
     rw [if_pos c48] at H
     have c48b0 := eq_true c48
     have c48b1 : decide (1 + tz33.size ≤ 9223372036854775807) = true := decide_eq_true c48
     try have c48b2 : (9223372036854775807 < 1 + tz33.size) = False := eq_false (Nat.not_lt.2 c48)
     obtain ⟨sx49, hsx49⟩ : ∃ s_ : ByteArray, ((⟨#[99]⟩ : ByteArray) ++ tz33) = s_ := ⟨_, rfl⟩
     replace H : ((columbariumlaw08_Text.f ((rd_T46 l2 x12_1).f2)).bind fun tz34 => (if (sx49).size + tz34.size ≤ 9223372036854775807 then ((columbariumlaw08_Label.f ((rd_T46 l2 x12_1).f1)).bind fun tz35 => ((columbariumlaw08_Text.f ((rd_T46 l2 x12_1).f2)).bind fun tz36 => ((ideal_Seal.f kj14 xz15000_1 xz15001_1 xz15002_1 xz15003_1 xz15004_1 tz35 tz36).bind fun btz37 => ((columbariumlaw08_Label.f ((rd_T46 l2 x12_1).f1)).bind fun tz48 => ((ideal_Open.f btz37.2.1 btz37.2.2.1 btz37.2.2.2.1 btz37.2.2.2.2.1 btz37.2.2.2.2.2.1 tz48 btz37.1).bind fun btz49 => (if btz49.2 = 0 then (if btz37.2.2.2.2.2.1 = true then (columbariumlaw08_IdealKeeps.j2 kj14 l2 tz1 btz37.2.2.2.2.2.2 x10_1 x11_1 x12_1 ((sx49) ++ tz34) btz37.1 btz37.2.1 btz37.2.2.1 btz37.2.2.2.1 btz37.2.2.2.2.1 btz37.2.2.2.2.2.1) else ((columbariumlaw08_Text.f ((rd_T46 l2 x12_1).f2)).bind fun tz51 => (if btz49.1.toList = tz51.toList then (columbariumlaw08_IdealKeeps.j2 kj14 l2 tz1 btz37.2.2.2.2.2.2 x10_1 x11_1 x12_1 ((sx49) ++ tz34) btz37.1 btz37.2.1 btz37.2.2.1 btz37.2.2.2.1 btz37.2.2.2.2.1 btz37.2.2.2.2.2.1) else (none)))) else (none))))))) else (none))) = some r := by first | (rw [hsx49] at H; exact H) | (simp only [hsx49] at H ⊢; exact H) | exact H
     replace H := Option.bind_eq_some_iff.mp H
     obtain ⟨tz34, A500, H⟩ := H
     replace H : (if (sx49).size + tz34.size ≤ 9223372036854775807 then ((columbariumlaw08_Label.f ((rd_T46 l2 x12_1).f1)).bind fun tz35 => ((columbariumlaw08_Text.f ((rd_T46 l2 x12_1).f2)).bind fun tz36 => ((ideal_Seal.f kj14 xz15000_1 xz15001_1 xz15002_1 xz15003_1 xz15004_1 tz35 tz36).bind fun btz37 => ((columbariumlaw08_Label.f ((rd_T46 l2 x12_1).f1)).bind fun tz48 => ((ideal_Open.f btz37.2.1 btz37.2.2.1 btz37.2.2.2.1 btz37.2.2.2.2.1 btz37.2.2.2.2.2.1 tz48 btz37.1).bind fun btz49 => (if btz49.2 = 0 then (if btz37.2.2.2.2.2.1 = true then (columbariumlaw08_IdealKeeps.j2 kj14 l2 tz1 btz37.2.2.2.2.2.2 x10_1 x11_1 x12_1 ((sx49) ++ tz34) btz37.1 btz37.2.1 btz37.2.2.1 btz37.2.2.2.1 btz37.2.2.2.2.1 btz37.2.2.2.2.2.1) else ((columbariumlaw08_Text.f ((rd_T46 l2 x12_1).f2)).bind fun tz51 => (if btz49.1.toList = tz51.toList then (columbariumlaw08_IdealKeeps.j2 kj14 l2 tz1 btz37.2.2.2.2.2.2 x10_1 x11_1 x12_1 ((sx49) ++ tz34) btz37.1 btz37.2.1 btz37.2.2.1 btz37.2.2.2.1 btz37.2.2.2.2.1 btz37.2.2.2.2.2.1) else (none)))) else (none))))))) else (none)) = some r := H
     have A50 := Aside0.mk A500
     clear A500
     by_cases c51 : (sx49).size + tz34.size ≤ 9223372036854775807
     rotate_left
     ·rw [if_neg c51] at H
      exact absurd H (by simp)
     rw [if_pos c51] at H
     have c51b0 := eq_true c51
     have c51b1 : decide ((sx49).size + tz34.size ≤ 9223372036854775807) = true := decide_eq_true c51
     try have c51b2 : (9223372036854775807 < (sx49).size + tz34.size) = False := eq_false (Nat.not_lt.2 c51)
     obtain ⟨sx52, hsx52⟩ : ∃ s_ : ByteArray, ((sx49) ++ tz34) = s_ := ⟨_, rfl⟩
     replace H : ((columbariumlaw08_Label.f ((rd_T46 l2 x12_1).f1)).bind fun tz35 => ((columbariumlaw08_Text.f ((rd_T46 l2 x12_1).f2)).bind fun tz36 => ((ideal_Seal.f kj14 xz15000_1 xz15001_1 xz15002_1 xz15003_1 xz15004_1 tz35 tz36).bind fun btz37 => ((columbariumlaw08_Label.f ((rd_T46 l2 x12_1).f1)).bind fun tz48 => ((ideal_Open.f btz37.2.1 btz37.2.2.1 btz37.2.2.2.1 btz37.2.2.2.2.1 btz37.2.2.2.2.2.1 tz48 btz37.1).bind fun btz49 => (if btz49.2 = 0 then (if btz37.2.2.2.2.2.1 = true then (columbariumlaw08_IdealKeeps.j2 kj14 l2 tz1 btz37.2.2.2.2.2.2 x10_1 x11_1 x12_1 sx52 btz37.1 btz37.2.1 btz37.2.2.1 btz37.2.2.2.1 btz37.2.2.2.2.1 btz37.2.2.2.2.2.1) else ((columbariumlaw08_Text.f ((rd_T46 l2 x12_1).f2)).bind fun tz51 => (if btz49.1.toList = tz51.toList then (columbariumlaw08_IdealKeeps.j2 kj14 l2 tz1 btz37.2.2.2.2.2.2 x10_1 x11_1 x12_1 sx52 btz37.1 btz37.2.1 btz37.2.2.1 btz37.2.2.2.1 btz37.2.2.2.2.1 btz37.2.2.2.2.2.1) else (none)))) else (none))))))) = some r := by first | (rw [hsx52] at H; exact H) | (simp only [hsx52] at H ⊢; exact H) | exact H
     replace H := Option.bind_eq_some_iff.mp H
     obtain ⟨tz35, A530, H⟩ := H
     replace H : ((columbariumlaw08_Text.f ((rd_T46 l2 x12_1).f2)).bind fun tz36 => ((ideal_Seal.f kj14 xz15000_1 xz15001_1 xz15002_1 xz15003_1 xz15004_1 tz35 tz36).bind fun btz37 => ((columbariumlaw08_Label.f ((rd_T46 l2 x12_1).f1)).bind fun tz48 => ((ideal_Open.f btz37.2.1 btz37.2.2.1 btz37.2.2.2.1 btz37.2.2.2.2.1 btz37.2.2.2.2.2.1 tz48 btz37.1).bind fun btz49 => (if btz49.2 = 0 then (if btz37.2.2.2.2.2.1 = true then (columbariumlaw08_IdealKeeps.j2 kj14 l2 tz1 btz37.2.2.2.2.2.2 x10_1 x11_1 x12_1 sx52 btz37.1 btz37.2.1 btz37.2.2.1 btz37.2.2.2.1 btz37.2.2.2.2.1 btz37.2.2.2.2.2.1) else ((columbariumlaw08_Text.f ((rd_T46 l2 x12_1).f2)).bind fun tz51 => (if btz49.1.toList = tz51.toList then (columbariumlaw08_IdealKeeps.j2 kj14 l2 tz1 btz37.2.2.2.2.2.2 x10_1 x11_1 x12_1 sx52 btz37.1 btz37.2.1 btz37.2.2.1 btz37.2.2.2.1 btz37.2.2.2.2.1 btz37.2.2.2.2.2.1) else (none)))) else (none)))))) = some r := H
     have A53 := Aside0.mk A530
     clear A530
     replace H := Option.bind_eq_some_iff.mp H
     obtain ⟨tz36, A540, H⟩ := H
     replace H : ((ideal_Seal.f kj14 xz15000_1 xz15001_1 xz15002_1 xz15003_1 xz15004_1 tz35 tz36).bind fun btz37 => ((columbariumlaw08_Label.f ((rd_T46 l2 x12_1).f1)).bind fun tz48 => ((ideal_Open.f btz37.2.1 btz37.2.2.1 btz37.2.2.2.1 btz37.2.2.2.2.1 btz37.2.2.2.2.2.1 tz48 btz37.1).bind fun btz49 => (if btz49.2 = 0 then (if btz37.2.2.2.2.2.1 = true then (columbariumlaw08_IdealKeeps.j2 kj14 l2 tz1 btz37.2.2.2.2.2.2 x10_1 x11_1 x12_1 sx52 btz37.1 btz37.2.1 btz37.2.2.1 btz37.2.2.2.1 btz37.2.2.2.2.1 btz37.2.2.2.2.2.1) else ((columbariumlaw08_Text.f ((rd_T46 l2 x12_1).f2)).bind fun tz51 => (if btz49.1.toList = tz51.toList then (columbariumlaw08_IdealKeeps.j2 kj14 l2 tz1 btz37.2.2.2.2.2.2 x10_1 x11_1 x12_1 sx52 btz37.1 btz37.2.1 btz37.2.2.1 btz37.2.2.2.1 btz37.2.2.2.2.1 btz37.2.2.2.2.2.1) else (none)))) else (none))))) = some r := H
     have A54 := Aside0.mk A540
     clear A540
     replace H := Option.bind_eq_some_iff.mp H
     obtain ⟨⟨tz37, tz38, tz39, tz40, tz43, tz46, tz47⟩, A550, H⟩ := H
     replace H : ((columbariumlaw08_Label.f ((rd_T46 l2 x12_1).f1)).bind fun tz48 => ((ideal_Open.f tz38 tz39 tz40 tz43 tz46 tz48 tz37).bind fun btz49 => (if btz49.2 = 0 then (if tz46 = true then (columbariumlaw08_IdealKeeps.j2 kj14 l2 tz1 tz47 x10_1 x11_1 x12_1 sx52 tz37 tz38 tz39 tz40 tz43 tz46) else ((columbariumlaw08_Text.f ((rd_T46 l2 x12_1).f2)).bind fun tz51 => (if btz49.1.toList = tz51.toList then (columbariumlaw08_IdealKeeps.j2 kj14 l2 tz1 tz47 x10_1 x11_1 x12_1 sx52 tz37 tz38 tz39 tz40 tz43 tz46) else (none)))) else (none)))) = some r := H
     have A55 := Aside0.mk A550
     clear A550
     replace H := Option.bind_eq_some_iff.mp H
     obtain ⟨tz48, A560, H⟩ := H
     replace H : ((ideal_Open.f tz38 tz39 tz40 tz43 tz46 tz48 tz37).bind fun btz49 => (if btz49.2 = 0 then (if tz46 = true then (columbariumlaw08_IdealKeeps.j2 kj14 l2 tz1 tz47 x10_1 x11_1 x12_1 sx52 tz37 tz38 tz39 tz40 tz43 tz46) else ((columbariumlaw08_Text.f ((rd_T46 l2 x12_1).f2)).bind fun tz51 => (if btz49.1.toList = tz51.toList then (columbariumlaw08_IdealKeeps.j2 kj14 l2 tz1 tz47 x10_1 x11_1 x12_1 sx52 tz37 tz38 tz39 tz40 tz43 tz46) else (none)))) else (none))) = some r := H
     have A56 := Aside0.mk A560
     clear A560
     replace H := Option.bind_eq_some_iff.mp H
     obtain ⟨⟨tz49, tz50⟩, A570, H⟩ := H
     replace H : (if tz50 = 0 then (if tz46 = true then (columbariumlaw08_IdealKeeps.j2 kj14 l2 tz1 tz47 x10_1 x11_1 x12_1 sx52 tz37 tz38 tz39 tz40 tz43 tz46) else ((columbariumlaw08_Text.f ((rd_T46 l2 x12_1).f2)).bind fun tz51 => (if tz49.toList = tz51.toList then (columbariumlaw08_IdealKeeps.j2 kj14 l2 tz1 tz47 x10_1 x11_1 x12_1 sx52 tz37 tz38 tz39 tz40 tz43 tz46) else (none)))) else (none)) = some r := H
     have A57 := Aside0.mk A570
     clear A570
     by_cases c58 : tz50 = 0
     rotate_left
     ·rw [if_neg c58] at H
      exact absurd H (by simp)
     rw [if_pos c58] at H
     have c58b0 : (tz50 == 0) = true := beq_iff_eq.mpr c58
     have c58b1 : (tz50 != 0) = false := bne_eq_false_iff_eq.mpr c58
     clear c58
     by_cases c59 : tz46 = true
     ·subst c59
      have H1 : (columbariumlaw08_IdealKeeps.j2 kj14 l2 tz1 tz47 x10_1 x11_1 x12_1 sx52 tz37 tz38 tz39 tz40 tz43 true) = some r := by rw [if_pos rfl] at H; exact H
      clear H
      have H := H1
      clear H1
      have H' := am H
      clear H
      try go_wp2
      have n0_ := am (Kd.R_drew (Kd.R_drewN HO_10.out nd))
      have n1_ := am (Kd.R_drew (Kd.R_drewN HO_11.out nd))
      have n2_ := am (Kd.R_drew (Kd.R_drewN HO_z15002.out nd))
      have n3_ := am (Kd.R_drew (Kd.R_drewN HO_z15003.out nd))
      have n4_ := am (Kd.R_drew (Kd.R_drewN HOz20.out nd))
      have n5_ := am (blk_drew (blk_drewN BKz14.out nd))
      have n6_ := am (blk_drew (blk_drewN BKz16.out nd))
      have n7_ := am (below_drew1 (pw_below_drewN HB.out nd))
      clear HO_10 HO_11 HO_z15002 HO_z15003 HOz20 BKz14 BKz16 HB; have HO_10 := n0_; have HO_11 := n1_; have HO_z15002 := n2_; have HO_z15003 := n3_; have HOz20 := n4_; have BKz14 := n5_; have BKz16 := n6_; have HB := n7_; clear n0_ n1_ n2_ n3_ n4_ n5_ n6_ n7_
      refine start_ (n := 9) (S := fun w' => w'.cell? ⟨gbz16, 0, none⟩ = some (.int .i64 ((rd_T46 l2 x12_1).f0)) ∧ w'.cell? ⟨gbz16, 1, none⟩ = some (.int .i64 ((rd_T46 l2 x12_1).f1)) ∧ w'.cell? ⟨gbz16, 2, none⟩ = some (.int .i64 ((rd_T46 l2 x12_1).f2))) (ds := []) #[false, false, false, false, false, false, false, false, false] (by kernel_rfl) rfl rfl (bc3 BKz16) (fun hHeld => ?_); refine with_tabW columbariumlaw08_IdealKeeps.tab15 columbariumlaw08_IdealKeeps.bits15 (fun HT_ HW_ => ?_)
      generalize (w28.drewN nd).drew = w60 at HO_10 HO_11 HO_z15002 HO_z15003 HOz20 BKz14 BKz16 HB hHeld ⊢
      refine pu_ 0 (some 63) HT_ rfl rfl (by kernel_rfl) (fun _ _ _ h => h) (.inl ⟨by rfl, by intro w'; go_simp; with_reducible rfl⟩) (by simp only [Act.put, sa_, s0_, s1_, i64_w, i32_w]; rfl) ?_
      refine pu_ 4 (some 67) HT_ rfl rfl (by kernel_rfl) (fun _ _ _ h => h) (.inl ⟨by rfl, by intro w'; go_simp; with_reducible rfl⟩) (by simp only [Act.put, sa_, s0_, s1_, i64_w, i32_w]; rfl) ?_
      refine tk_ 1 (some 64) HT_ HW_ rfl rfl (by kernel_rfl) (fun _ _ _ h => h) (.inl ⟨by rfl, by rintro w' ⟨s0, s1, s2⟩; go_simp; with_reducible rfl⟩) hHeld (by simp only [Act.put, sa_, s0_, s1_, i64_w, i32_w]; rfl) ?_
      refine tk_ 5 (some 68) HT_ HW_ rfl rfl (by kernel_rfl) (fun _ _ _ h => h) (.inl ⟨by rfl, by rintro w' ⟨s0, s1, s2⟩; go_simp; with_reducible rfl⟩) hHeld (by simp only [Act.put, sa_, s0_, s1_, i64_w, i32_w]; rfl) ?_
      refine on_ 2 (some 65) HT_ rfl rfl (by kernel_rfl) (by decide) (fun K hK => ?_)
      refine goes_ Try.func39 (by kernel_rfl) rfl #[.int .i64 ((rd_T46 l2 x12_1).f1)] (by rfl) rfl rfl (by (try simp only [List.map_toArray, List.map_cons, List.map_nil]); first | done | rfl | (simp only [List.length_drop, List.length_take]; rfl)) ?_
      with_reducible refine (columbariumlaw08_Label.calls ((rd_T46 l2 x12_1).f1) tz33 _ A47.out).mono ?_
      rintro e w61 ⟨rfl, hb⟩
      refine ⟨_, rfl, ?_⟩
      have n0_ := am (Kd.R_below (pr HO_10) hb)
      have n1_ := am (Kd.R_below (pr HO_11) hb)
      have n2_ := am (Kd.R_below (pr HO_z15002) hb)
      have n3_ := am (Kd.R_below (pr HO_z15003) hb)
      have n4_ := am (Kd.R_below (pr HOz20) hb)
      have n5_ := am (blk_below (pk BKz14) hb)
      have n6_ := am (blk_below (pk BKz16) hb)
      have n7_ := am (below_step (by repeat (first | (with_reducible first | exact HB.out | apply below_alloc | apply pw_below_drewN | apply below_drew1 | refine below_set ?_ GEz14.out | refine below_set ?_ GEz16.out) | exact HB.out)) hb)
      clear HO_10 HO_11 HO_z15002 HO_z15003 HOz20 BKz14 BKz16 HB; have HO_10 := n0_; have HO_11 := n1_; have HO_z15002 := n2_; have HO_z15003 := n3_; have HOz20 := n4_; have BKz14 := n5_; have BKz16 := n6_; have HB := n7_; clear n0_ n1_ n2_ n3_ n4_ n5_ n6_ n7_; (try clear hb); (try clear hb2); (try clear hk); (try clear hi)
      refine hK.out _ _ (bc3 BKz16) (fun hHeld => ?_)
      clear hK K
      refine norm_ (by show Act.put _ (some 65) _ = _; simp only [Act.put, sa_, s0_, s1_, i64_w, i32_w]; rfl) ?_
      refine pu_ 3 (some 66) HT_ rfl rfl (by kernel_rfl) (fun _ _ _ h => h) (.inl ⟨by rfl, by intro w'; go_simp; with_reducible rfl⟩) (by simp only [Act.put, sa_, s0_, s1_, i64_w, i32_w]; rfl) ?_
      refine on_ 6 (some 69) HT_ rfl rfl (by kernel_rfl) (by decide) (fun K hK => ?_)
      refine goes_ Try.func40 (by kernel_rfl) rfl #[.int .i64 ((rd_T46 l2 x12_1).f2)] (by rfl) rfl rfl (by (try simp only [List.map_toArray, List.map_cons, List.map_nil]); first | done | rfl | (simp only [List.length_drop, List.length_take]; rfl)) ?_
      with_reducible refine (columbariumlaw08_Text.calls ((rd_T46 l2 x12_1).f2) tz34 _ A50.out).mono ?_
      rintro e w62 ⟨rfl, hb⟩
      refine ⟨_, rfl, ?_⟩
      have n0_ := am (Kd.R_below (pr HO_10) hb)
      have n1_ := am (Kd.R_below (pr HO_11) hb)
      have n2_ := am (Kd.R_below (pr HO_z15002) hb)
      have n3_ := am (Kd.R_below (pr HO_z15003) hb)
      have n4_ := am (Kd.R_below (pr HOz20) hb)
      have n5_ := am (blk_below (pk BKz14) hb)
      have n6_ := am (blk_below (pk BKz16) hb)
      have n7_ := am (below_step (by repeat (first | (with_reducible first | exact HB.out | apply below_alloc | apply pw_below_drewN | apply below_drew1 | refine below_set ?_ GEz14.out | refine below_set ?_ GEz16.out) | exact HB.out)) hb)
      clear HO_10 HO_11 HO_z15002 HO_z15003 HOz20 BKz14 BKz16 HB; have HO_10 := n0_; have HO_11 := n1_; have HO_z15002 := n2_; have HO_z15003 := n3_; have HOz20 := n4_; have BKz14 := n5_; have BKz16 := n6_; have HB := n7_; clear n0_ n1_ n2_ n3_ n4_ n5_ n6_ n7_; (try clear hb); (try clear hb2); (try clear hk); (try clear hi)
      refine hK.out _ _ (bc3 BKz16) (fun hHeld => ?_)
      clear hK K
      refine norm_ (by show Act.put _ (some 69) _ = _; simp only [Act.put, sa_, s0_, s1_, i64_w, i32_w]; rfl) ?_
      refine pu_ 7 (some 70) HT_ rfl rfl (by kernel_rfl) (fun _ _ _ h => h) (.inl ⟨by rfl, by intro w'; go_simp; with_reducible rfl⟩) (by simp only [Act.put, sa_, s0_, s1_, i64_w, i32_w]; rfl) ?_
      refine pu_ 8 (some 14) HT_ rfl rfl (by kernel_rfl) (fun _ _ _ h => h) (.inl ⟨by rfl, by intro w'; go_simp; with_reducible rfl⟩) (by simp only [Act.put, sa_, s0_, s1_, i64_w, i32_w]; rfl) ?_
      refine done_ (done_of HT_.out (by kernel_rfl)) ?_
      try go_wp2
      have n0_ := am (Kd.R_drew HO_10.out)
      have n1_ := am (Kd.R_drew HO_11.out)
      have n2_ := am (Kd.R_drew HO_z15002.out)
      have n3_ := am (Kd.R_drew HO_z15003.out)
      have n4_ := am (Kd.R_drew HOz20.out)
      have n5_ := am (blk_drew BKz14.out)
      have n6_ := am (blk_drew BKz16.out)
      have n7_ := am (below_drew1 HB.out)
      clear HO_10 HO_11 HO_z15002 HO_z15003 HOz20 BKz14 BKz16 HB; have HO_10 := n0_; have HO_11 := n1_; have HO_z15002 := n2_; have HO_z15003 := n3_; have HOz20 := n4_; have BKz14 := n5_; have BKz16 := n6_; have HB := n7_; clear n0_ n1_ n2_ n3_ n4_ n5_ n6_ n7_
      refine start_ (n := 15) (S := fun w' => w'.cell? ⟨gbz14, 0, none⟩ = some (.string xz15000_1) ∧ w'.cell? ⟨gbz14, 1, none⟩ = some (.int .i64 xz15001_1) ∧ w'.cell? ⟨gbz14, 2, none⟩ = some (uz15002) ∧ w'.cell? ⟨gbz14, 3, none⟩ = some (uz15003) ∧ w'.cell? ⟨gbz14, 4, none⟩ = some (.bool xz15004_1) ∧ w'.cell? ⟨gbz16, 0, none⟩ = some (.int .i64 ((rd_T46 l2 x12_1).f0)) ∧ w'.cell? ⟨gbz16, 1, none⟩ = some (.int .i64 ((rd_T46 l2 x12_1).f1)) ∧ w'.cell? ⟨gbz16, 2, none⟩ = some (.int .i64 ((rd_T46 l2 x12_1).f2))) (ds := [13]) #[false, false, false, false, false, false, false, false, false, false, false, false, false, false, false] (by kernel_rfl) rfl rfl ⟨(blk_cell BKz14.out 0).trans rfl, (blk_cell BKz14.out 1).trans rfl, (blk_cell BKz14.out 2).trans rfl, (blk_cell BKz14.out 3).trans rfl, (blk_cell BKz14.out 4).trans rfl, (blk_cell BKz16.out 0).trans rfl, (blk_cell BKz16.out 1).trans rfl, (blk_cell BKz16.out 2).trans rfl⟩ (fun hHeld => ?_); refine with_tabW columbariumlaw08_IdealKeeps.tab16 columbariumlaw08_IdealKeeps.bits16 (fun HT_ HW_ => ?_)
      generalize w62.drew = w63 at HO_10 HO_11 HO_z15002 HO_z15003 HOz20 BKz14 BKz16 HB hHeld ⊢
      refine pu_ 1 (some 73) HT_ rfl rfl (by kernel_rfl) (fun _ _ _ h => h) (.inl ⟨by rfl, by intro w'; go_simp; with_reducible rfl⟩) (by simp only [Act.put, sa_, s0_, s1_, i64_w, i32_w]; rfl) ?_
      refine pu_ 4 (some 76) HT_ rfl rfl (by kernel_rfl) (fun _ _ _ h => h) (.inl ⟨by rfl, by intro w'; go_simp; with_reducible rfl⟩) (by simp only [Act.put, sa_, s0_, s1_, i64_w, i32_w]; rfl) ?_
      refine tk_ 0 (some 72) HT_ HW_ rfl rfl (by kernel_rfl) (fun _ _ _ h => h) (.inl ⟨by rfl, by rintro w' ⟨s0, s1, s2, s3, s4, s5, s6, s7⟩; go_simp; with_reducible rfl⟩) hHeld (by simp only [Act.put, sa_, s0_, s1_, i64_w, i32_w]; rfl) ?_
      refine tk_ 2 (some 74) HT_ HW_ rfl rfl (by kernel_rfl) (fun _ _ _ h => h) (.inl ⟨by rfl, by rintro w' ⟨s0, s1, s2, s3, s4, s5, s6, s7⟩; go_simp; with_reducible rfl⟩) hHeld (by simp only [Act.put, sa_, s0_, s1_, i64_w, i32_w]; rfl) ?_
      refine tk_ 5 (some 77) HT_ HW_ rfl rfl (by kernel_rfl) (fun _ _ _ h => h) (.inl ⟨by rfl, by rintro w' ⟨s0, s1, s2, s3, s4, s5, s6, s7⟩; go_simp; with_reducible rfl⟩) hHeld (by simp only [Act.put, sa_, s0_, s1_, i64_w, i32_w]; rfl) ?_
      refine on_ 3 (some 75) HT_ rfl rfl (by kernel_rfl) (by decide) (fun K hK => ?_)
      refine goes_ Try.func39 (by kernel_rfl) rfl #[.int .i64 ((rd_T46 l2 x12_1).f1)] (by rfl) rfl rfl (by (try simp only [List.map_toArray, List.map_cons, List.map_nil]); first | done | rfl | (simp only [List.length_drop, List.length_take]; rfl)) ?_
      with_reducible refine (columbariumlaw08_Label.calls ((rd_T46 l2 x12_1).f1) tz35 _ A53.out).mono ?_
      rintro e w64 ⟨rfl, hb⟩
      refine ⟨_, rfl, ?_⟩
      have n0_ := am (Kd.R_below (pr HO_10) hb)
      have n1_ := am (Kd.R_below (pr HO_11) hb)
      have n2_ := am (Kd.R_below (pr HO_z15002) hb)
      have n3_ := am (Kd.R_below (pr HO_z15003) hb)
      have n4_ := am (Kd.R_below (pr HOz20) hb)
      have n5_ := am (blk_below (pk BKz14) hb)
      have n6_ := am (blk_below (pk BKz16) hb)
      have n7_ := am (below_step (by repeat (first | (with_reducible first | exact HB.out | apply below_alloc | apply pw_below_drewN | apply below_drew1 | refine below_set ?_ GEz14.out | refine below_set ?_ GEz16.out) | exact HB.out)) hb)
      clear HO_10 HO_11 HO_z15002 HO_z15003 HOz20 BKz14 BKz16 HB; have HO_10 := n0_; have HO_11 := n1_; have HO_z15002 := n2_; have HO_z15003 := n3_; have HOz20 := n4_; have BKz14 := n5_; have BKz16 := n6_; have HB := n7_; clear n0_ n1_ n2_ n3_ n4_ n5_ n6_ n7_; (try clear hb); (try clear hb2); (try clear hk); (try clear hi)
      refine hK.out _ _ ⟨(blk_cell BKz14.out 0).trans rfl, (blk_cell BKz14.out 1).trans rfl, (blk_cell BKz14.out 2).trans rfl, (blk_cell BKz14.out 3).trans rfl, (blk_cell BKz14.out 4).trans rfl, (blk_cell BKz16.out 0).trans rfl, (blk_cell BKz16.out 1).trans rfl, (blk_cell BKz16.out 2).trans rfl⟩ (fun hHeld => ?_)
      clear hK K
      refine norm_ (by show Act.put _ (some 75) _ = _; simp only [Act.put, sa_, s0_, s1_, i64_w, i32_w]; rfl) ?_
      refine on_ 6 (some 78) HT_ rfl rfl (by kernel_rfl) (by decide) (fun K hK => ?_)
      refine goes_ Try.func40 (by kernel_rfl) rfl #[.int .i64 ((rd_T46 l2 x12_1).f2)] (by rfl) rfl rfl (by (try simp only [List.map_toArray, List.map_cons, List.map_nil]); first | done | rfl | (simp only [List.length_drop, List.length_take]; rfl)) ?_
      with_reducible refine (columbariumlaw08_Text.calls ((rd_T46 l2 x12_1).f2) tz36 _ A54.out).mono ?_
      rintro e w65 ⟨rfl, hb⟩
      refine ⟨_, rfl, ?_⟩
      have n0_ := am (Kd.R_below (pr HO_10) hb)
      have n1_ := am (Kd.R_below (pr HO_11) hb)
      have n2_ := am (Kd.R_below (pr HO_z15002) hb)
      have n3_ := am (Kd.R_below (pr HO_z15003) hb)
      have n4_ := am (Kd.R_below (pr HOz20) hb)
      have n5_ := am (blk_below (pk BKz14) hb)
      have n6_ := am (blk_below (pk BKz16) hb)
      have n7_ := am (below_step (by repeat (first | (with_reducible first | exact HB.out | apply below_alloc | apply pw_below_drewN | apply below_drew1 | refine below_set ?_ GEz14.out | refine below_set ?_ GEz16.out) | exact HB.out)) hb)
      clear HO_10 HO_11 HO_z15002 HO_z15003 HOz20 BKz14 BKz16 HB; have HO_10 := n0_; have HO_11 := n1_; have HO_z15002 := n2_; have HO_z15003 := n3_; have HOz20 := n4_; have BKz14 := n5_; have BKz16 := n6_; have HB := n7_; clear n0_ n1_ n2_ n3_ n4_ n5_ n6_ n7_; (try clear hb); (try clear hb2); (try clear hk); (try clear hi)
      obtain ⟨Ao66, co66, eo66⟩ := Kd.R_slice HO_z15002.out
      (first | subst eo66 | (injection eo66 with f1_ f2_ f3_; have f4_ := f1_.symm; have f5_ := f3_.symm; clear f1_ f2_ f3_; subst f4_; subst f5_))
      obtain ⟨Ao67, co67, eo67⟩ := Kd.R_slice HO_z15003.out
      (first | subst eo67 | (injection eo67 with f1_ f2_ f3_; have f4_ := f1_.symm; have f5_ := f3_.symm; clear f1_ f2_ f3_; subst f4_; subst f5_))
      refine hK.out _ _ ⟨(blk_cell BKz14.out 0).trans rfl, (blk_cell BKz14.out 1).trans rfl, (blk_cell BKz14.out 2).trans rfl, (blk_cell BKz14.out 3).trans rfl, (blk_cell BKz14.out 4).trans rfl, (blk_cell BKz16.out 0).trans rfl, (blk_cell BKz16.out 1).trans rfl, (blk_cell BKz16.out 2).trans rfl⟩ (fun hHeld => ?_)
      clear hK K
      refine norm_ (by show Act.put _ (some 78) _ = _; simp only [Act.put, sa_, s0_, s1_, i64_w, i32_w]; rfl) ?_
      refine on_ 7 (some 79) HT_ rfl rfl (by kernel_rfl) (by decide) (fun K hK => ?_)
      refine goes_ Try.func41 (by kernel_rfl) rfl #[.agg #[.string xz15000_1, .int .i64 xz15001_1, .slice Ao66 xz15002_1.length co66, .slice Ao67 xz15003_1.length co67, .bool xz15004_1], .string tz35, .string tz36] (by rfl) rfl rfl (by (try simp only [List.map_toArray, List.map_cons, List.map_nil]); first | done | rfl | (simp only [List.length_drop, List.length_take]; rfl)) ?_
      with_reducible refine (ideal_Seal.calls kj14 xz15000_1 xz15001_1 _ _ xz15002_1 _ _ xz15003_1 xz15004_1 tz35 tz36 tz37 tz38 tz39 tz40 tz43 true tz47 _ ?side1 ?side2 ?side3 ?side4 A55.out).mono ?_
      (case side1 => repeat (first | exact (Kd.R_reads' HO_z15002.out).2.2 | (with_reducible refine Kd.C_alloc ?_ _) | (with_reducible refine Kd.C_drewN ?_ _) | (with_reducible refine Kd.C_drew ?_)))
      (case side2 => exact (Kd.R_reads' HO_z15002.out).2.1)
      (case side3 => repeat (first | exact (Kd.R_reads' HO_z15003.out).2.2 | (with_reducible refine Kd.C_alloc ?_ _) | (with_reducible refine Kd.C_drewN ?_ _) | (with_reducible refine Kd.C_drew ?_)))
      (case side4 => exact (Kd.R_reads' HO_z15003.out).2.1)
      rintro e w68 ⟨vz41, vz44, rfl, ho0, ho1, hb⟩
      refine ⟨_, rfl, ?_⟩
      have n0_ := am (Kd.R_below (pr HO_10) hb)
      have n1_ := am (Kd.R_below (pr HO_11) hb)
      have n2_ := am (Kd.R_elder' (pr HO_z15002) (Kd.R_base ho0) hb)
      have n3_ := am (Kd.R_elder' (pr HO_z15003) (Kd.R_base ho1) hb)
      have n4_ := am (Kd.R_below (pr HOz20) hb)
      have n5_ := am (Kd.R_lower (Kd.R_new' ho0 (Kd.R_lt (pr HO_z15002))) (below_size (by repeat (first | (with_reducible first | exact HB.out | apply below_alloc | apply pw_below_drewN | apply below_drew1 | refine below_set ?_ GEz14.out | refine below_set ?_ GEz16.out) | exact HB.out))))
      have n6_ := am (Kd.R_lower (Kd.R_new' ho1 (Kd.R_lt (pr HO_z15003))) (below_size (by repeat (first | (with_reducible first | exact HB.out | apply below_alloc | apply pw_below_drewN | apply below_drew1 | refine below_set ?_ GEz14.out | refine below_set ?_ GEz16.out) | exact HB.out))))
      have n7_ := am (blk_below (pk BKz14) hb)
      have n8_ := am (blk_below (pk BKz16) hb)
      have n9_ := am (below_step (by repeat (first | (with_reducible first | exact HB.out | apply below_alloc | apply pw_below_drewN | apply below_drew1 | refine below_set ?_ GEz14.out | refine below_set ?_ GEz16.out) | exact HB.out)) hb)
      clear HO_10 HO_11 HO_z15002 HO_z15003 HOz20 BKz14 BKz16 HB; have HO_10 := n0_; have HO_11 := n1_; have HO_z15002 := n2_; have HO_z15003 := n3_; have HOz20 := n4_; have HOz42 := n5_; have HOz45 := n6_; have BKz14 := n7_; have BKz16 := n8_; have HB := n9_; clear n0_ n1_ n2_ n3_ n4_ n5_ n6_ n7_ n8_ n9_; (try clear hb); (try clear hb2); (try clear hk); (try clear hi); (try clear ho0); (try clear ho1)
      obtain ⟨Ao71, co71, eo71⟩ := Kd.R_slice HOz42.out
      (first | subst eo71 | (injection eo71 with f1_ f2_ f3_; have f4_ := f1_.symm; have f5_ := f3_.symm; clear f1_ f2_ f3_; subst f4_; subst f5_))
      obtain ⟨Ao73, co73, eo73⟩ := Kd.R_slice HOz45.out
      (first | subst eo73 | (injection eo73 with f1_ f2_ f3_; have f4_ := f1_.symm; have f5_ := f3_.symm; clear f1_ f2_ f3_; subst f4_; subst f5_))
      refine hK.out _ _ ⟨(blk_cell BKz14.out 0).trans rfl, (blk_cell BKz14.out 1).trans rfl, (blk_cell BKz14.out 2).trans rfl, (blk_cell BKz14.out 3).trans rfl, (blk_cell BKz14.out 4).trans rfl, (blk_cell BKz16.out 0).trans rfl, (blk_cell BKz16.out 1).trans rfl, (blk_cell BKz16.out 2).trans rfl⟩ (fun hHeld => ?_)
      clear hK K
      refine norm_ (by show Act.put _ (some 79) _ = _; simp only [Act.put, sa_, s0_, s1_, i64_w, i32_w]; rfl) ?_
      refine pu_ 8 (some 71) HT_ rfl rfl (by kernel_rfl) (fun _ _ _ h => h) (.inl ⟨by rfl, by intro w'; go_simp; with_reducible rfl⟩) (by simp only [Act.put, sa_, s0_, s1_, i64_w, i32_w]; rfl) ?_
      refine pu_ 9 (some 80) HT_ rfl rfl (by kernel_rfl) (fun _ _ _ h => h) (.inl ⟨by rfl, by intro w'; go_simp; with_reducible rfl⟩) (by simp only [Act.put, sa_, s0_, s1_, i64_w, i32_w]; rfl) ?_
      refine pu_ 10 (some 81) HT_ rfl rfl (by kernel_rfl) (fun _ _ _ h => h) (.inl ⟨by rfl, by intro w'; go_simp; with_reducible rfl⟩) (by simp only [Act.put, sa_, s0_, s1_, i64_w, i32_w]; rfl) ?_
      refine pu_ 11 (some 82) HT_ rfl rfl (by kernel_rfl) (fun _ _ _ h => h) (.inl ⟨by rfl, by intro w'; go_simp; with_reducible rfl⟩) (by simp only [Act.put, sa_, s0_, s1_, i64_w, i32_w]; rfl) ?_
      refine pu_ 12 (some 15) HT_ rfl rfl (by kernel_rfl) (fun _ _ _ h => h) (.inl ⟨by rfl, by intro w'; go_simp; with_reducible rfl⟩) (by simp only [Act.put, sa_, s0_, s1_, i64_w, i32_w]; rfl) ?_
      refine la_ 13 none HT_ rfl rfl (by kernel_rfl) (by decide) (fun K hK => ?_)
      have hs69 : w68.cell? ⟨gbz14, 0, none⟩ = some (.string xz15000_1) := (blk_cell BKz14.out 0).trans rfl
      have hfs69 := blk_frozen BKz14.out 0
      have hns69_1 := NBz16_z14.out
      have hms69_1 := NBz14_z16.out
      have hs70 : w68.cell? ⟨gbz14, 1, none⟩ = some (.int .i64 xz15001_1) := (blk_cell BKz14.out 1).trans rfl
      have hfs70 := blk_frozen BKz14.out 1
      have hns70_1 := NBz16_z14.out
      have hms70_1 := NBz14_z16.out
      have hs72 : w68.cell? ⟨gbz14, 2, none⟩ = some (.slice Ao66 xz15002_1.length co66) := (blk_cell BKz14.out 2).trans rfl
      have hfs72 := blk_frozen BKz14.out 2
      have hns72_1 := NBz16_z14.out
      have hms72_1 := NBz14_z16.out
      have hs74 : w68.cell? ⟨gbz14, 3, none⟩ = some (.slice Ao67 xz15003_1.length co67) := (blk_cell BKz14.out 3).trans rfl
      have hfs74 := blk_frozen BKz14.out 3
      have hns74_1 := NBz16_z14.out
      have hms74_1 := NBz14_z16.out
      have hs75 : w68.cell? ⟨gbz14, 4, none⟩ = some (.bool xz15004_1) := (blk_cell BKz14.out 4).trans rfl
      have hfs75 := blk_frozen BKz14.out 4
      have hns75_1 := NBz16_z14.out
      have hms75_1 := NBz14_z16.out
      refine skip_ (by rfl) rfl (by go_simp; rfl) ?_
      refine hK.out _ _ ?_
      clear hK K
      refine pu_ 14 (some 9) HT_ rfl rfl (by kernel_rfl) (fun _ _ _ h => h) (.inl ⟨by rfl, by intro w'; go_simp; with_reducible rfl⟩) (by simp only [Act.put, sa_, s0_, s1_, i64_w, i32_w]; rfl) ?_
      refine done_ (done_of HT_.out (by kernel_rfl)) ?_
      try go_wp2
      have n0_ : Aside0 (Kd.R Kd.string 9 (((((w68.setCell ⟨gbz14, 0, none⟩ (.string tz38)).setCell ⟨gbz14, 1, none⟩ (.int .i64 tz39)).setCell ⟨gbz14, 2, none⟩ (.slice Ao71 tz40.length co71)).setCell ⟨gbz14, 3, none⟩ (.slice Ao73 tz43.length co73)).setCell ⟨gbz14, 4, none⟩ (.bool true)) w.heap.size (fun k_ => some k_ ≠ (u11 : Value).ownBlock) u10 x10_1) := ⟨by (with_reducible repeat (first | apply Kd.R_alloc | apply Kd.R_drewN | apply Kd.R_drew)); exact Kd.R_mono (rf5 (Kd.R_types HO_10.out BKz14.out (by decide)) (fun _ hk => hk.2)) (fun _ hk => hk.1)⟩
      have n1_ : Aside0 (Kd.R Kd.string 9 (((((w68.setCell ⟨gbz14, 0, none⟩ (.string tz38)).setCell ⟨gbz14, 1, none⟩ (.int .i64 tz39)).setCell ⟨gbz14, 2, none⟩ (.slice Ao71 tz40.length co71)).setCell ⟨gbz14, 3, none⟩ (.slice Ao73 tz43.length co73)).setCell ⟨gbz14, 4, none⟩ (.bool true)) w.heap.size (fun k_ => some k_ ≠ (u10 : Value).ownBlock) u11 x11_1) := ⟨by (with_reducible repeat (first | apply Kd.R_alloc | apply Kd.R_drewN | apply Kd.R_drew)); exact Kd.R_mono (rf5 (Kd.R_types HO_11.out BKz14.out (by decide)) (fun _ hk => hk.2)) (fun _ hk => hk.1)⟩
      have n2_ : Aside0 (Kd.R k72 72 (((((w68.setCell ⟨gbz14, 0, none⟩ (.string tz38)).setCell ⟨gbz14, 1, none⟩ (.int .i64 tz39)).setCell ⟨gbz14, 2, none⟩ (.slice Ao71 tz40.length co71)).setCell ⟨gbz14, 3, none⟩ (.slice Ao73 tz43.length co73)).setCell ⟨gbz14, 4, none⟩ (.bool true)) w.heap.size (fun k_ => some k_ ≠ (.slice Ao71 tz40.length co71 : Value).ownBlock) (.slice Ao66 xz15002_1.length co66) xz15002_1) := ⟨by (with_reducible repeat (first | apply Kd.R_alloc | apply Kd.R_drewN | apply Kd.R_drew)); exact Kd.R_mono (rf5 (Kd.R_types HO_z15002.out BKz14.out (by decide)) (fun _ hk => hk.2)) (fun _ hk => hk.1.2)⟩
      have n3_ : Aside0 (Kd.R k74 74 (((((w68.setCell ⟨gbz14, 0, none⟩ (.string tz38)).setCell ⟨gbz14, 1, none⟩ (.int .i64 tz39)).setCell ⟨gbz14, 2, none⟩ (.slice Ao71 tz40.length co71)).setCell ⟨gbz14, 3, none⟩ (.slice Ao73 tz43.length co73)).setCell ⟨gbz14, 4, none⟩ (.bool true)) w.heap.size (fun k_ => some k_ ≠ (.slice Ao73 tz43.length co73 : Value).ownBlock) (.slice Ao67 xz15003_1.length co67) xz15003_1) := ⟨by (with_reducible repeat (first | apply Kd.R_alloc | apply Kd.R_drewN | apply Kd.R_drew)); exact Kd.R_mono (rf5 (Kd.R_types HO_z15003.out BKz14.out (by decide)) (fun _ hk => hk.2)) (fun _ hk => hk.1.2)⟩
      have n4_ : Aside0 (Kd.R (Kd.int .u8) 5 (((((w68.setCell ⟨gbz14, 0, none⟩ (.string tz38)).setCell ⟨gbz14, 1, none⟩ (.int .i64 tz39)).setCell ⟨gbz14, 2, none⟩ (.slice Ao71 tz40.length co71)).setCell ⟨gbz14, 3, none⟩ (.slice Ao73 tz43.length co73)).setCell ⟨gbz14, 4, none⟩ (.bool true)) w.heap.size (fun _ => True) vz19 yz18) := ⟨by (with_reducible repeat (first | apply Kd.R_alloc | apply Kd.R_drewN | apply Kd.R_drew)); exact Kd.R_mono (rf5 (Kd.R_types HOz20.out BKz14.out (by decide)) (fun _ hk => hk.2)) (fun _ hk => trivial)⟩
      have n5_ : Aside0 (Kd.R k72 72 (((((w68.setCell ⟨gbz14, 0, none⟩ (.string tz38)).setCell ⟨gbz14, 1, none⟩ (.int .i64 tz39)).setCell ⟨gbz14, 2, none⟩ (.slice Ao71 tz40.length co71)).setCell ⟨gbz14, 3, none⟩ (.slice Ao73 tz43.length co73)).setCell ⟨gbz14, 4, none⟩ (.bool true)) w.heap.size (fun k_ => some k_ ≠ (.slice Ao66 xz15002_1.length co66 : Value).ownBlock) (.slice Ao71 tz40.length co71) tz40) := ⟨by (with_reducible repeat (first | apply Kd.R_alloc | apply Kd.R_drewN | apply Kd.R_drew)); exact Kd.R_mono (rf5 (Kd.R_types HOz42.out BKz14.out (by decide)) (fun _ hk => hk.2)) (fun _ hk => hk.1.2)⟩
      have n6_ : Aside0 (Kd.R k74 74 (((((w68.setCell ⟨gbz14, 0, none⟩ (.string tz38)).setCell ⟨gbz14, 1, none⟩ (.int .i64 tz39)).setCell ⟨gbz14, 2, none⟩ (.slice Ao71 tz40.length co71)).setCell ⟨gbz14, 3, none⟩ (.slice Ao73 tz43.length co73)).setCell ⟨gbz14, 4, none⟩ (.bool true)) w.heap.size (fun k_ => some k_ ≠ (.slice Ao67 xz15003_1.length co67 : Value).ownBlock) (.slice Ao73 tz43.length co73) tz43) := ⟨by (with_reducible repeat (first | apply Kd.R_alloc | apply Kd.R_drewN | apply Kd.R_drew)); exact Kd.R_mono (rf5 (Kd.R_types HOz45.out BKz14.out (by decide)) (fun _ hk => hk.2)) (fun _ hk => hk.1.2)⟩
      have n7_ : Aside0 ((((((w68.setCell ⟨gbz14, 0, none⟩ (.string tz38)).setCell ⟨gbz14, 1, none⟩ (.int .i64 tz39)).setCell ⟨gbz14, 2, none⟩ (.slice Ao71 tz40.length co71)).setCell ⟨gbz14, 3, none⟩ (.slice Ao73 tz43.length co73)).setCell ⟨gbz14, 4, none⟩ (.bool true)).heap[gbz14]? = some (.cells #[.string tz38, .int .i64 tz39, .slice Ao71 tz40.length co71, .slice Ao73 tz43.length co73, .bool true] 50 (0, 0))) := ⟨by (with_reducible repeat (first | refine blk_drewN ?_ _ | refine blk_drew ?_ | refine blk_alloc ?_ _)); refine blk_put (cs := #[.string tz38, .int .i64 tz39, .slice Ao71 tz40.length co71, .slice Ao73 tz43.length co73, .bool xz15004_1]) ?_ 4 _ rfl; (with_reducible repeat (first | refine blk_drewN ?_ _ | refine blk_drew ?_ | refine blk_alloc ?_ _)); refine blk_put (cs := #[.string tz38, .int .i64 tz39, .slice Ao71 tz40.length co71, .slice Ao67 xz15003_1.length co67, .bool xz15004_1]) ?_ 3 _ rfl; (with_reducible repeat (first | refine blk_drewN ?_ _ | refine blk_drew ?_ | refine blk_alloc ?_ _)); refine blk_put (cs := #[.string tz38, .int .i64 tz39, .slice Ao66 xz15002_1.length co66, .slice Ao67 xz15003_1.length co67, .bool xz15004_1]) ?_ 2 _ rfl; (with_reducible repeat (first | refine blk_drewN ?_ _ | refine blk_drew ?_ | refine blk_alloc ?_ _)); refine blk_put (cs := #[.string tz38, .int .i64 xz15001_1, .slice Ao66 xz15002_1.length co66, .slice Ao67 xz15003_1.length co67, .bool xz15004_1]) ?_ 1 _ rfl; (with_reducible repeat (first | refine blk_drewN ?_ _ | refine blk_drew ?_ | refine blk_alloc ?_ _)); refine blk_put (cs := #[.string xz15000_1, .int .i64 xz15001_1, .slice Ao66 xz15002_1.length co66, .slice Ao67 xz15003_1.length co67, .bool xz15004_1]) ?_ 0 _ rfl; (with_reducible repeat (first | refine blk_drewN ?_ _ | refine blk_drew ?_ | refine blk_alloc ?_ _)); exact BKz14.out⟩
      have n8_ : Aside0 ((((((w68.setCell ⟨gbz14, 0, none⟩ (.string tz38)).setCell ⟨gbz14, 1, none⟩ (.int .i64 tz39)).setCell ⟨gbz14, 2, none⟩ (.slice Ao71 tz40.length co71)).setCell ⟨gbz14, 3, none⟩ (.slice Ao73 tz43.length co73)).setCell ⟨gbz14, 4, none⟩ (.bool true)).heap[gbz16]? = some (.cells #[.int .i64 ((rd_T46 l2 x12_1).f0), .int .i64 ((rd_T46 l2 x12_1).f1), .int .i64 ((rd_T46 l2 x12_1).f2)] 46 (0, 0))) := ⟨by (with_reducible repeat (first | refine blk_drewN ?_ _ | refine blk_drew ?_ | refine blk_alloc ?_ _)); refine blk_far ?_ NBz16_z14.out _; (with_reducible repeat (first | refine blk_drewN ?_ _ | refine blk_drew ?_ | refine blk_alloc ?_ _)); refine blk_far ?_ NBz16_z14.out _; (with_reducible repeat (first | refine blk_drewN ?_ _ | refine blk_drew ?_ | refine blk_alloc ?_ _)); refine blk_far ?_ NBz16_z14.out _; (with_reducible repeat (first | refine blk_drewN ?_ _ | refine blk_drew ?_ | refine blk_alloc ?_ _)); refine blk_far ?_ NBz16_z14.out _; (with_reducible repeat (first | refine blk_drewN ?_ _ | refine blk_drew ?_ | refine blk_alloc ?_ _)); refine blk_far ?_ NBz16_z14.out _; (with_reducible repeat (first | refine blk_drewN ?_ _ | refine blk_drew ?_ | refine blk_alloc ?_ _)); exact BKz16.out⟩
      have n9_ : Aside0 (Below w.heap.size w (((((w68.setCell ⟨gbz14, 0, none⟩ (.string tz38)).setCell ⟨gbz14, 1, none⟩ (.int .i64 tz39)).setCell ⟨gbz14, 2, none⟩ (.slice Ao71 tz40.length co71)).setCell ⟨gbz14, 3, none⟩ (.slice Ao73 tz43.length co73)).setCell ⟨gbz14, 4, none⟩ (.bool true))) := ⟨by repeat (first | (with_reducible first | exact HB.out | apply below_alloc | apply pw_below_drewN | apply below_drew1 | refine below_set ?_ GEz14.out | refine below_set ?_ GEz16.out) | exact HB.out)⟩
      (try clear HO_10); (try clear HO_11); (try clear HO_z15002); (try clear HO_z15003); (try clear HOz20); (try clear HOz42); (try clear HOz45); (try clear BKz14); (try clear BKz16); (try clear HB)
      generalize (((((w68.setCell ⟨gbz14, 0, none⟩ (.string tz38)).setCell ⟨gbz14, 1, none⟩ (.int .i64 tz39)).setCell ⟨gbz14, 2, none⟩ (.slice Ao71 tz40.length co71)).setCell ⟨gbz14, 3, none⟩ (.slice Ao73 tz43.length co73)).setCell ⟨gbz14, 4, none⟩ (.bool true)) = w76 at n0_ n1_ n2_ n3_ n4_ n5_ n6_ n7_ n8_ n9_ ⊢
      have HO_10 := n0_; have HO_11 := n1_; have HO_z15002 := n2_; have HO_z15003 := n3_; have HOz20 := n4_; have HOz42 := n5_; have HOz45 := n6_; have BKz14 := n7_; have BKz16 := n8_; have HB := n9_; clear n0_ n1_ n2_ n3_ n4_ n5_ n6_ n7_ n8_ n9_
      have n0_ := am (Kd.R_drew HO_10.out)
      have n1_ := am (Kd.R_drew HO_11.out)
      have n2_ := am (Kd.R_drew HO_z15002.out)
      have n3_ := am (Kd.R_drew HO_z15003.out)
      have n4_ := am (Kd.R_drew HOz20.out)
      have n5_ := am (Kd.R_drew HOz42.out)
      have n6_ := am (Kd.R_drew HOz45.out)
      have n7_ := am (blk_drew BKz14.out)
      have n8_ := am (blk_drew BKz16.out)
      have n9_ := am (below_drew1 HB.out)
      clear HO_10 HO_11 HO_z15002 HO_z15003 HOz20 HOz42 HOz45 BKz14 BKz16 HB; have HO_10 := n0_; have HO_11 := n1_; have HO_z15002 := n2_; have HO_z15003 := n3_; have HOz20 := n4_; have HOz42 := n5_; have HOz45 := n6_; have BKz14 := n7_; have BKz16 := n8_; have HB := n9_; clear n0_ n1_ n2_ n3_ n4_ n5_ n6_ n7_ n8_ n9_
      refine start_ (n := 11) (S := fun w' => w'.cell? ⟨gbz14, 0, none⟩ = some (.string tz38) ∧ w'.cell? ⟨gbz14, 1, none⟩ = some (.int .i64 tz39) ∧ w'.cell? ⟨gbz14, 2, none⟩ = some (.slice Ao71 tz40.length co71) ∧ w'.cell? ⟨gbz14, 3, none⟩ = some (.slice Ao73 tz43.length co73) ∧ w'.cell? ⟨gbz14, 4, none⟩ = some (.bool true) ∧ w'.cell? ⟨gbz16, 0, none⟩ = some (.int .i64 ((rd_T46 l2 x12_1).f0)) ∧ w'.cell? ⟨gbz16, 1, none⟩ = some (.int .i64 ((rd_T46 l2 x12_1).f1)) ∧ w'.cell? ⟨gbz16, 2, none⟩ = some (.int .i64 ((rd_T46 l2 x12_1).f2))) (ds := []) #[false, false, false, false, false, false, false, false, false, false, false] (by kernel_rfl) rfl rfl ⟨(blk_cell BKz14.out 0).trans rfl, (blk_cell BKz14.out 1).trans rfl, (blk_cell BKz14.out 2).trans rfl, (blk_cell BKz14.out 3).trans rfl, (blk_cell BKz14.out 4).trans rfl, (blk_cell BKz16.out 0).trans rfl, (blk_cell BKz16.out 1).trans rfl, (blk_cell BKz16.out 2).trans rfl⟩ (fun hHeld => ?_); refine with_tabW columbariumlaw08_IdealKeeps.tab17 columbariumlaw08_IdealKeeps.bits17 (fun HT_ HW_ => ?_)
      generalize w76.drew = w77 at HO_10 HO_11 HO_z15002 HO_z15003 HOz20 HOz42 HOz45 BKz14 BKz16 HB hHeld ⊢
      refine pu_ 1 (some 85) HT_ rfl rfl (by kernel_rfl) (fun _ _ _ h => h) (.inl ⟨by rfl, by intro w'; go_simp; with_reducible rfl⟩) (by simp only [Act.put, sa_, s0_, s1_, i64_w, i32_w]; rfl) ?_
      refine pu_ 4 (some 88) HT_ rfl rfl (by kernel_rfl) (fun _ _ _ h => h) (.inl ⟨by rfl, by intro w'; go_simp; with_reducible rfl⟩) (by simp only [Act.put, sa_, s0_, s1_, i64_w, i32_w]; rfl) ?_
      refine tk_ 0 (some 84) HT_ HW_ rfl rfl (by kernel_rfl) (fun _ _ _ h => h) (.inl ⟨by rfl, by rintro w' ⟨s0, s1, s2, s3, s4, s5, s6, s7⟩; go_simp; with_reducible rfl⟩) hHeld (by simp only [Act.put, sa_, s0_, s1_, i64_w, i32_w]; rfl) ?_
      refine tk_ 2 (some 86) HT_ HW_ rfl rfl (by kernel_rfl) (fun _ _ _ h => h) (.inl ⟨by rfl, by rintro w' ⟨s0, s1, s2, s3, s4, s5, s6, s7⟩; go_simp; with_reducible rfl⟩) hHeld (by simp only [Act.put, sa_, s0_, s1_, i64_w, i32_w]; rfl) ?_
      refine on_ 3 (some 87) HT_ rfl rfl (by kernel_rfl) (by decide) (fun K hK => ?_)
      refine goes_ Try.func39 (by kernel_rfl) rfl #[.int .i64 ((rd_T46 l2 x12_1).f1)] (by rfl) rfl rfl (by (try simp only [List.map_toArray, List.map_cons, List.map_nil]); first | done | rfl | (simp only [List.length_drop, List.length_take]; rfl)) ?_
      with_reducible refine (columbariumlaw08_Label.calls ((rd_T46 l2 x12_1).f1) tz48 _ A56.out).mono ?_
      rintro e w78 ⟨rfl, hb⟩
      refine ⟨_, rfl, ?_⟩
      have n0_ := am (Kd.R_below (pr HO_10) hb)
      have n1_ := am (Kd.R_below (pr HO_11) hb)
      have n2_ := am (Kd.R_below (pr HO_z15002) hb)
      have n3_ := am (Kd.R_below (pr HO_z15003) hb)
      have n4_ := am (Kd.R_below (pr HOz20) hb)
      have n5_ := am (Kd.R_below (pr HOz42) hb)
      have n6_ := am (Kd.R_below (pr HOz45) hb)
      have n7_ := am (blk_below (pk BKz14) hb)
      have n8_ := am (blk_below (pk BKz16) hb)
      have n9_ := am (below_step (by repeat (first | (with_reducible first | exact HB.out | apply below_alloc | apply pw_below_drewN | apply below_drew1 | refine below_set ?_ GEz14.out | refine below_set ?_ GEz16.out) | exact HB.out)) hb)
      clear HO_10 HO_11 HO_z15002 HO_z15003 HOz20 HOz42 HOz45 BKz14 BKz16 HB; have HO_10 := n0_; have HO_11 := n1_; have HO_z15002 := n2_; have HO_z15003 := n3_; have HOz20 := n4_; have HOz42 := n5_; have HOz45 := n6_; have BKz14 := n7_; have BKz16 := n8_; have HB := n9_; clear n0_ n1_ n2_ n3_ n4_ n5_ n6_ n7_ n8_ n9_; (try clear hb); (try clear hb2); (try clear hk); (try clear hi)
      refine hK.out _ _ ⟨(blk_cell BKz14.out 0).trans rfl, (blk_cell BKz14.out 1).trans rfl, (blk_cell BKz14.out 2).trans rfl, (blk_cell BKz14.out 3).trans rfl, (blk_cell BKz14.out 4).trans rfl, (blk_cell BKz16.out 0).trans rfl, (blk_cell BKz16.out 1).trans rfl, (blk_cell BKz16.out 2).trans rfl⟩ (fun hHeld => ?_)
      clear hK K
      refine norm_ (by show Act.put _ (some 87) _ = _; simp only [Act.put, sa_, s0_, s1_, i64_w, i32_w]; rfl) ?_
      refine on_ 5 (some 89) HT_ rfl rfl (by kernel_rfl) (by decide) (fun K hK => ?_)
      refine goes_ Try.func43 (by kernel_rfl) rfl #[.agg #[.string tz38, .int .i64 tz39, .slice Ao71 tz40.length co71, .slice Ao73 tz43.length co73, .bool true], .string tz48, .string tz37] (by rfl) rfl rfl (by (try simp only [List.map_toArray, List.map_cons, List.map_nil]); first | done | rfl | (simp only [List.length_drop, List.length_take]; rfl)) ?_
      with_reducible refine (ideal_Open.calls tz38 tz39 _ _ tz40 _ _ tz43 true tz48 tz37 tz49 tz50 _ ?side1 ?side2 ?side3 ?side4 A57.out).mono ?_
      (case side1 => repeat (first | exact (Kd.R_reads' HOz42.out).2.2 | (with_reducible refine Kd.C_alloc ?_ _) | (with_reducible refine Kd.C_drewN ?_ _) | (with_reducible refine Kd.C_drew ?_)))
      (case side2 => exact (Kd.R_reads' HOz42.out).2.1)
      (case side3 => repeat (first | exact (Kd.R_reads' HOz45.out).2.2 | (with_reducible refine Kd.C_alloc ?_ _) | (with_reducible refine Kd.C_drewN ?_ _) | (with_reducible refine Kd.C_drew ?_)))
      (case side4 => exact (Kd.R_reads' HOz45.out).2.1)
      rintro e w79 ⟨rfl, hb⟩
      refine ⟨_, rfl, ?_⟩
      have n0_ := am (Kd.R_below (pr HO_10) hb)
      have n1_ := am (Kd.R_below (pr HO_11) hb)
      have n2_ := am (Kd.R_below (pr HO_z15002) hb)
      have n3_ := am (Kd.R_below (pr HO_z15003) hb)
      have n4_ := am (Kd.R_below (pr HOz20) hb)
      have n5_ := am (Kd.R_below (pr HOz42) hb)
      have n6_ := am (Kd.R_below (pr HOz45) hb)
      have n7_ := am (blk_below (pk BKz14) hb)
      have n8_ := am (blk_below (pk BKz16) hb)
      have n9_ := am (below_step (by repeat (first | (with_reducible first | exact HB.out | apply below_alloc | apply pw_below_drewN | apply below_drew1 | refine below_set ?_ GEz14.out | refine below_set ?_ GEz16.out) | exact HB.out)) hb)
      clear HO_10 HO_11 HO_z15002 HO_z15003 HOz20 HOz42 HOz45 BKz14 BKz16 HB; have HO_10 := n0_; have HO_11 := n1_; have HO_z15002 := n2_; have HO_z15003 := n3_; have HOz20 := n4_; have HOz42 := n5_; have HOz45 := n6_; have BKz14 := n7_; have BKz16 := n8_; have HB := n9_; clear n0_ n1_ n2_ n3_ n4_ n5_ n6_ n7_ n8_ n9_; (try clear hb); (try clear hb2); (try clear hk); (try clear hi)
      refine hK.out _ _ ⟨(blk_cell BKz14.out 0).trans rfl, (blk_cell BKz14.out 1).trans rfl, (blk_cell BKz14.out 2).trans rfl, (blk_cell BKz14.out 3).trans rfl, (blk_cell BKz14.out 4).trans rfl, (blk_cell BKz16.out 0).trans rfl, (blk_cell BKz16.out 1).trans rfl, (blk_cell BKz16.out 2).trans rfl⟩ (fun hHeld => ?_)
      clear hK K
      refine norm_ (by show Act.put _ (some 89) _ = _; simp only [Act.put, sa_, s0_, s1_, i64_w, i32_w]; rfl) ?_
      refine pu_ 6 (some 83) HT_ rfl rfl (by kernel_rfl) (fun _ _ _ h => h) (.inl ⟨by rfl, by intro w'; go_simp; with_reducible rfl⟩) (by simp only [Act.put, sa_, s0_, s1_, i64_w, i32_w]; rfl) ?_
      refine pu_ 7 (some 90) HT_ rfl rfl (by kernel_rfl) (fun _ _ _ h => h) (.inl ⟨by rfl, by intro w'; go_simp; with_reducible rfl⟩) (by simp only [Act.put, sa_, s0_, s1_, i64_w, i32_w]; rfl) ?_
      refine pu_ 8 (some 91) HT_ rfl rfl (by kernel_rfl) (fun _ _ _ h => h) (.inl ⟨by rfl, by intro w'; go_simp; with_reducible rfl⟩) (by simp only [Act.put, sa_, s0_, s1_, i64_w, i32_w]; rfl) ?_
      refine pu_ 9 (some 16) HT_ rfl rfl (by kernel_rfl) (fun _ _ _ h => h) (.inl ⟨by rfl, by intro w'; go_simp; with_reducible rfl⟩) (by simp only [Act.put, sa_, s0_, s1_, i64_w, i32_w]; rfl) ?_
      refine pu_ 10 (some 17) HT_ rfl rfl (by kernel_rfl) (fun _ _ _ h => h) (.inl ⟨by rfl, by intro w'; go_simp; with_reducible rfl⟩) (by simp only [Act.put, sa_, s0_, s1_, i64_w, i32_w]; rfl) ?_
      refine done_ (done_of HT_.out (by kernel_rfl)) ?_
      have hnb80 := NBz14_z16.out
      have hnc80 := NBz16_z14.out
      have hcz81_0 : w79.cell? ⟨gbz14, 0, none⟩ = some (.string tz38) := (blk_cell BKz14.out 0).trans rfl
      have hcz81_1 : w79.cell? ⟨gbz14, 1, none⟩ = some (.int .i64 tz39) := (blk_cell BKz14.out 1).trans rfl
      have hcz81_2 : w79.cell? ⟨gbz14, 2, none⟩ = some (.slice Ao71 tz40.length co71) := (blk_cell BKz14.out 2).trans rfl
      have hcz81_3 : w79.cell? ⟨gbz14, 3, none⟩ = some (.slice Ao73 tz43.length co73) := (blk_cell BKz14.out 3).trans rfl
      have hcz81_4 : w79.cell? ⟨gbz14, 4, none⟩ = some (.bool true) := (blk_cell BKz14.out 4).trans rfl
      have hfz81_0 := blk_frozen BKz14.out 0
      have hfz81_1 := blk_frozen BKz14.out 1
      have hfz81_2 := blk_frozen BKz14.out 2
      have hfz81_3 := blk_frozen BKz14.out 3
      have hfz81_4 := blk_frozen BKz14.out 4
      try go_wp2
      go_meet
      case rel => exact ⟨_, (tz47), (sx52), (tz37), (tz38), (tz39), (tz40), (tz43), (true), (.slice Ao71 tz40.length co71), (.slice Ao73 tz43.length co73), (by first | rfl | (simp; done) | (simp [*]; done)), (by first | rfl | (simp; done) | (simp only [← hsx52] <;> (first | rfl | simp)) | (simp [*]; done)), (by first | rfl | (simp; done) | (simp [*]; done)), H', ⟨by have := HK1.out; have := HJ14.out; first | omega | exact Nat.le_refl _⟩, ⟨by (with_reducible repeat (first | apply Kd.R_alloc | apply Kd.R_drewN | apply Kd.R_drew)); exact HO_10.out⟩, ⟨by (with_reducible repeat (first | apply Kd.R_alloc | apply Kd.R_drewN | apply Kd.R_drew)); exact HO_11.out⟩, ⟨by (with_reducible repeat (first | apply Kd.R_alloc | apply Kd.R_drewN | apply Kd.R_drew)); exact Kd.R_mono HOz42.out (fun _ hk => trivial)⟩, ⟨by (with_reducible repeat (first | apply Kd.R_alloc | apply Kd.R_drewN | apply Kd.R_drew)); exact Kd.R_mono HOz45.out (fun _ hk => trivial)⟩, ⟨by (with_reducible repeat (first | refine blk_drewN ?_ _ | refine blk_drew ?_ | refine blk_alloc ?_ _)); exact BKz14.out⟩, ⟨by (with_reducible repeat (first | refine blk_drewN ?_ _ | refine blk_drew ?_ | refine blk_alloc ?_ _)); exact BKz16.out⟩, ⟨by repeat (first | (with_reducible first | exact HB.out | apply below_alloc | apply pw_below_drewN | apply below_drew1 | refine below_set ?_ GEz14.out | refine below_set ?_ GEz16.out) | exact HB.out)⟩⟩
     as_aux_lemma =>
      replace c59 := Bool.eq_false_iff.mpr c59
      subst c59
      have H1 : ((columbariumlaw08_Text.f ((rd_T46 l2 x12_1).f2)).bind fun tz51 => (if tz49.toList = tz51.toList then (columbariumlaw08_IdealKeeps.j2 kj14 l2 tz1 tz47 x10_1 x11_1 x12_1 sx52 tz37 tz38 tz39 tz40 tz43 false) else (none))) = some r := by rw [if_neg (show ¬ (false = true) by decide)] at H; exact H
      clear H
      have H := H1
      clear H1
      replace H := Option.bind_eq_some_iff.mp H
      obtain ⟨tz51, A820, H⟩ := H
      replace H : (if tz49.toList = tz51.toList then (columbariumlaw08_IdealKeeps.j2 kj14 l2 tz1 tz47 x10_1 x11_1 x12_1 sx52 tz37 tz38 tz39 tz40 tz43 false) else (none)) = some r := H
      have A82 := Aside0.mk A820
      clear A820
      by_cases c83 : tz49.toList = tz51.toList
      rotate_left
      ·rw [if_neg c83] at H
       exact absurd H (by simp)
      rw [if_pos c83] at H
      have c83b0 : (tz49.toList == tz51.toList) = true := beq_iff_eq.mpr c83
      have c83b1 : (tz49.toList != tz51.toList) = false := bne_eq_false_iff_eq.mpr c83
      clear c83
      have H' := am H
      clear H
      try go_wp2
      have n0_ := am (Kd.R_drew (Kd.R_drewN HO_10.out nd))
      have n1_ := am (Kd.R_drew (Kd.R_drewN HO_11.out nd))
      have n2_ := am (Kd.R_drew (Kd.R_drewN HO_z15002.out nd))
      have n3_ := am (Kd.R_drew (Kd.R_drewN HO_z15003.out nd))
      have n4_ := am (Kd.R_drew (Kd.R_drewN HOz20.out nd))
      have n5_ := am (blk_drew (blk_drewN BKz14.out nd))
      have n6_ := am (blk_drew (blk_drewN BKz16.out nd))
      have n7_ := am (below_drew1 (pw_below_drewN HB.out nd))
      clear HO_10 HO_11 HO_z15002 HO_z15003 HOz20 BKz14 BKz16 HB; have HO_10 := n0_; have HO_11 := n1_; have HO_z15002 := n2_; have HO_z15003 := n3_; have HOz20 := n4_; have BKz14 := n5_; have BKz16 := n6_; have HB := n7_; clear n0_ n1_ n2_ n3_ n4_ n5_ n6_ n7_
      refine start_ (n := 9) (S := fun w' => w'.cell? ⟨gbz16, 0, none⟩ = some (.int .i64 ((rd_T46 l2 x12_1).f0)) ∧ w'.cell? ⟨gbz16, 1, none⟩ = some (.int .i64 ((rd_T46 l2 x12_1).f1)) ∧ w'.cell? ⟨gbz16, 2, none⟩ = some (.int .i64 ((rd_T46 l2 x12_1).f2))) (ds := []) #[false, false, false, false, false, false, false, false, false] (by kernel_rfl) rfl rfl (bc3 BKz16) (fun hHeld => ?_); refine with_tabW columbariumlaw08_IdealKeeps.tab15 columbariumlaw08_IdealKeeps.bits15 (fun HT_ HW_ => ?_)
      generalize (w28.drewN nd).drew = w84 at HO_10 HO_11 HO_z15002 HO_z15003 HOz20 BKz14 BKz16 HB hHeld ⊢
      refine pu_ 0 (some 63) HT_ rfl rfl (by kernel_rfl) (fun _ _ _ h => h) (.inl ⟨by rfl, by intro w'; go_simp; with_reducible rfl⟩) (by simp only [Act.put, sa_, s0_, s1_, i64_w, i32_w]; rfl) ?_
      refine pu_ 4 (some 67) HT_ rfl rfl (by kernel_rfl) (fun _ _ _ h => h) (.inl ⟨by rfl, by intro w'; go_simp; with_reducible rfl⟩) (by simp only [Act.put, sa_, s0_, s1_, i64_w, i32_w]; rfl) ?_
      refine tk_ 1 (some 64) HT_ HW_ rfl rfl (by kernel_rfl) (fun _ _ _ h => h) (.inl ⟨by rfl, by rintro w' ⟨s0, s1, s2⟩; go_simp; with_reducible rfl⟩) hHeld (by simp only [Act.put, sa_, s0_, s1_, i64_w, i32_w]; rfl) ?_
      refine tk_ 5 (some 68) HT_ HW_ rfl rfl (by kernel_rfl) (fun _ _ _ h => h) (.inl ⟨by rfl, by rintro w' ⟨s0, s1, s2⟩; go_simp; with_reducible rfl⟩) hHeld (by simp only [Act.put, sa_, s0_, s1_, i64_w, i32_w]; rfl) ?_
      refine on_ 2 (some 65) HT_ rfl rfl (by kernel_rfl) (by decide) (fun K hK => ?_)
      refine goes_ Try.func39 (by kernel_rfl) rfl #[.int .i64 ((rd_T46 l2 x12_1).f1)] (by rfl) rfl rfl (by (try simp only [List.map_toArray, List.map_cons, List.map_nil]); first | done | rfl | (simp only [List.length_drop, List.length_take]; rfl)) ?_
      with_reducible refine (columbariumlaw08_Label.calls ((rd_T46 l2 x12_1).f1) tz33 _ A47.out).mono ?_
      rintro e w85 ⟨rfl, hb⟩
      refine ⟨_, rfl, ?_⟩
      have n0_ := am (Kd.R_below (pr HO_10) hb)
      have n1_ := am (Kd.R_below (pr HO_11) hb)
      have n2_ := am (Kd.R_below (pr HO_z15002) hb)
      have n3_ := am (Kd.R_below (pr HO_z15003) hb)
      have n4_ := am (Kd.R_below (pr HOz20) hb)
      have n5_ := am (blk_below (pk BKz14) hb)
      have n6_ := am (blk_below (pk BKz16) hb)
      have n7_ := am (below_step (by repeat (first | (with_reducible first | exact HB.out | apply below_alloc | apply pw_below_drewN | apply below_drew1 | refine below_set ?_ GEz14.out | refine below_set ?_ GEz16.out) | exact HB.out)) hb)
      clear HO_10 HO_11 HO_z15002 HO_z15003 HOz20 BKz14 BKz16 HB; have HO_10 := n0_; have HO_11 := n1_; have HO_z15002 := n2_; have HO_z15003 := n3_; have HOz20 := n4_; have BKz14 := n5_; have BKz16 := n6_; have HB := n7_; clear n0_ n1_ n2_ n3_ n4_ n5_ n6_ n7_; (try clear hb); (try clear hb2); (try clear hk); (try clear hi)
      refine hK.out _ _ (bc3 BKz16) (fun hHeld => ?_)
      clear hK K
      refine norm_ (by show Act.put _ (some 65) _ = _; simp only [Act.put, sa_, s0_, s1_, i64_w, i32_w]; rfl) ?_
      refine pu_ 3 (some 66) HT_ rfl rfl (by kernel_rfl) (fun _ _ _ h => h) (.inl ⟨by rfl, by intro w'; go_simp; with_reducible rfl⟩) (by simp only [Act.put, sa_, s0_, s1_, i64_w, i32_w]; rfl) ?_
      refine on_ 6 (some 69) HT_ rfl rfl (by kernel_rfl) (by decide) (fun K hK => ?_)
      refine goes_ Try.func40 (by kernel_rfl) rfl #[.int .i64 ((rd_T46 l2 x12_1).f2)] (by rfl) rfl rfl (by (try simp only [List.map_toArray, List.map_cons, List.map_nil]); first | done | rfl | (simp only [List.length_drop, List.length_take]; rfl)) ?_
      with_reducible refine (columbariumlaw08_Text.calls ((rd_T46 l2 x12_1).f2) tz34 _ A50.out).mono ?_
      rintro e w86 ⟨rfl, hb⟩
      refine ⟨_, rfl, ?_⟩
      have n0_ := am (Kd.R_below (pr HO_10) hb)
      have n1_ := am (Kd.R_below (pr HO_11) hb)
      have n2_ := am (Kd.R_below (pr HO_z15002) hb)
      have n3_ := am (Kd.R_below (pr HO_z15003) hb)
      have n4_ := am (Kd.R_below (pr HOz20) hb)
      have n5_ := am (blk_below (pk BKz14) hb)
      have n6_ := am (blk_below (pk BKz16) hb)
      have n7_ := am (below_step (by repeat (first | (with_reducible first | exact HB.out | apply below_alloc | apply pw_below_drewN | apply below_drew1 | refine below_set ?_ GEz14.out | refine below_set ?_ GEz16.out) | exact HB.out)) hb)
      clear HO_10 HO_11 HO_z15002 HO_z15003 HOz20 BKz14 BKz16 HB; have HO_10 := n0_; have HO_11 := n1_; have HO_z15002 := n2_; have HO_z15003 := n3_; have HOz20 := n4_; have BKz14 := n5_; have BKz16 := n6_; have HB := n7_; clear n0_ n1_ n2_ n3_ n4_ n5_ n6_ n7_; (try clear hb); (try clear hb2); (try clear hk); (try clear hi)
      refine hK.out _ _ (bc3 BKz16) (fun hHeld => ?_)
      clear hK K
      refine norm_ (by show Act.put _ (some 69) _ = _; simp only [Act.put, sa_, s0_, s1_, i64_w, i32_w]; rfl) ?_
      refine pu_ 7 (some 70) HT_ rfl rfl (by kernel_rfl) (fun _ _ _ h => h) (.inl ⟨by rfl, by intro w'; go_simp; with_reducible rfl⟩) (by simp only [Act.put, sa_, s0_, s1_, i64_w, i32_w]; rfl) ?_
      refine pu_ 8 (some 14) HT_ rfl rfl (by kernel_rfl) (fun _ _ _ h => h) (.inl ⟨by rfl, by intro w'; go_simp; with_reducible rfl⟩) (by simp only [Act.put, sa_, s0_, s1_, i64_w, i32_w]; rfl) ?_
      refine done_ (done_of HT_.out (by kernel_rfl)) ?_
      try go_wp2
      have n0_ := am (Kd.R_drew HO_10.out)
      have n1_ := am (Kd.R_drew HO_11.out)
      have n2_ := am (Kd.R_drew HO_z15002.out)
      have n3_ := am (Kd.R_drew HO_z15003.out)
      have n4_ := am (Kd.R_drew HOz20.out)
      have n5_ := am (blk_drew BKz14.out)
      have n6_ := am (blk_drew BKz16.out)
      have n7_ := am (below_drew1 HB.out)
      clear HO_10 HO_11 HO_z15002 HO_z15003 HOz20 BKz14 BKz16 HB; have HO_10 := n0_; have HO_11 := n1_; have HO_z15002 := n2_; have HO_z15003 := n3_; have HOz20 := n4_; have BKz14 := n5_; have BKz16 := n6_; have HB := n7_; clear n0_ n1_ n2_ n3_ n4_ n5_ n6_ n7_
      refine start_ (n := 15) (S := fun w' => w'.cell? ⟨gbz14, 0, none⟩ = some (.string xz15000_1) ∧ w'.cell? ⟨gbz14, 1, none⟩ = some (.int .i64 xz15001_1) ∧ w'.cell? ⟨gbz14, 2, none⟩ = some (uz15002) ∧ w'.cell? ⟨gbz14, 3, none⟩ = some (uz15003) ∧ w'.cell? ⟨gbz14, 4, none⟩ = some (.bool xz15004_1) ∧ w'.cell? ⟨gbz16, 0, none⟩ = some (.int .i64 ((rd_T46 l2 x12_1).f0)) ∧ w'.cell? ⟨gbz16, 1, none⟩ = some (.int .i64 ((rd_T46 l2 x12_1).f1)) ∧ w'.cell? ⟨gbz16, 2, none⟩ = some (.int .i64 ((rd_T46 l2 x12_1).f2))) (ds := [13]) #[false, false, false, false, false, false, false, false, false, false, false, false, false, false, false] (by kernel_rfl) rfl rfl ⟨(blk_cell BKz14.out 0).trans rfl, (blk_cell BKz14.out 1).trans rfl, (blk_cell BKz14.out 2).trans rfl, (blk_cell BKz14.out 3).trans rfl, (blk_cell BKz14.out 4).trans rfl, (blk_cell BKz16.out 0).trans rfl, (blk_cell BKz16.out 1).trans rfl, (blk_cell BKz16.out 2).trans rfl⟩ (fun hHeld => ?_); refine with_tabW columbariumlaw08_IdealKeeps.tab16 columbariumlaw08_IdealKeeps.bits16 (fun HT_ HW_ => ?_)
      generalize w86.drew = w87 at HO_10 HO_11 HO_z15002 HO_z15003 HOz20 BKz14 BKz16 HB hHeld ⊢
      refine pu_ 1 (some 73) HT_ rfl rfl (by kernel_rfl) (fun _ _ _ h => h) (.inl ⟨by rfl, by intro w'; go_simp; with_reducible rfl⟩) (by simp only [Act.put, sa_, s0_, s1_, i64_w, i32_w]; rfl) ?_
      refine pu_ 4 (some 76) HT_ rfl rfl (by kernel_rfl) (fun _ _ _ h => h) (.inl ⟨by rfl, by intro w'; go_simp; with_reducible rfl⟩) (by simp only [Act.put, sa_, s0_, s1_, i64_w, i32_w]; rfl) ?_
      refine tk_ 0 (some 72) HT_ HW_ rfl rfl (by kernel_rfl) (fun _ _ _ h => h) (.inl ⟨by rfl, by rintro w' ⟨s0, s1, s2, s3, s4, s5, s6, s7⟩; go_simp; with_reducible rfl⟩) hHeld (by simp only [Act.put, sa_, s0_, s1_, i64_w, i32_w]; rfl) ?_
      refine tk_ 2 (some 74) HT_ HW_ rfl rfl (by kernel_rfl) (fun _ _ _ h => h) (.inl ⟨by rfl, by rintro w' ⟨s0, s1, s2, s3, s4, s5, s6, s7⟩; go_simp; with_reducible rfl⟩) hHeld (by simp only [Act.put, sa_, s0_, s1_, i64_w, i32_w]; rfl) ?_
      refine tk_ 5 (some 77) HT_ HW_ rfl rfl (by kernel_rfl) (fun _ _ _ h => h) (.inl ⟨by rfl, by rintro w' ⟨s0, s1, s2, s3, s4, s5, s6, s7⟩; go_simp; with_reducible rfl⟩) hHeld (by simp only [Act.put, sa_, s0_, s1_, i64_w, i32_w]; rfl) ?_
      refine on_ 3 (some 75) HT_ rfl rfl (by kernel_rfl) (by decide) (fun K hK => ?_)
      refine goes_ Try.func39 (by kernel_rfl) rfl #[.int .i64 ((rd_T46 l2 x12_1).f1)] (by rfl) rfl rfl (by (try simp only [List.map_toArray, List.map_cons, List.map_nil]); first | done | rfl | (simp only [List.length_drop, List.length_take]; rfl)) ?_
      with_reducible refine (columbariumlaw08_Label.calls ((rd_T46 l2 x12_1).f1) tz35 _ A53.out).mono ?_
      rintro e w88 ⟨rfl, hb⟩
      refine ⟨_, rfl, ?_⟩
      have n0_ := am (Kd.R_below (pr HO_10) hb)
      have n1_ := am (Kd.R_below (pr HO_11) hb)
      have n2_ := am (Kd.R_below (pr HO_z15002) hb)
      have n3_ := am (Kd.R_below (pr HO_z15003) hb)
      have n4_ := am (Kd.R_below (pr HOz20) hb)
      have n5_ := am (blk_below (pk BKz14) hb)
      have n6_ := am (blk_below (pk BKz16) hb)
      have n7_ := am (below_step (by repeat (first | (with_reducible first | exact HB.out | apply below_alloc | apply pw_below_drewN | apply below_drew1 | refine below_set ?_ GEz14.out | refine below_set ?_ GEz16.out) | exact HB.out)) hb)
      clear HO_10 HO_11 HO_z15002 HO_z15003 HOz20 BKz14 BKz16 HB; have HO_10 := n0_; have HO_11 := n1_; have HO_z15002 := n2_; have HO_z15003 := n3_; have HOz20 := n4_; have BKz14 := n5_; have BKz16 := n6_; have HB := n7_; clear n0_ n1_ n2_ n3_ n4_ n5_ n6_ n7_; (try clear hb); (try clear hb2); (try clear hk); (try clear hi)
      refine hK.out _ _ ⟨(blk_cell BKz14.out 0).trans rfl, (blk_cell BKz14.out 1).trans rfl, (blk_cell BKz14.out 2).trans rfl, (blk_cell BKz14.out 3).trans rfl, (blk_cell BKz14.out 4).trans rfl, (blk_cell BKz16.out 0).trans rfl, (blk_cell BKz16.out 1).trans rfl, (blk_cell BKz16.out 2).trans rfl⟩ (fun hHeld => ?_)
      clear hK K
      refine norm_ (by show Act.put _ (some 75) _ = _; simp only [Act.put, sa_, s0_, s1_, i64_w, i32_w]; rfl) ?_
      refine on_ 6 (some 78) HT_ rfl rfl (by kernel_rfl) (by decide) (fun K hK => ?_)
      refine goes_ Try.func40 (by kernel_rfl) rfl #[.int .i64 ((rd_T46 l2 x12_1).f2)] (by rfl) rfl rfl (by (try simp only [List.map_toArray, List.map_cons, List.map_nil]); first | done | rfl | (simp only [List.length_drop, List.length_take]; rfl)) ?_
      with_reducible refine (columbariumlaw08_Text.calls ((rd_T46 l2 x12_1).f2) tz36 _ A54.out).mono ?_
      rintro e w89 ⟨rfl, hb⟩
      refine ⟨_, rfl, ?_⟩
      have n0_ := am (Kd.R_below (pr HO_10) hb)
      have n1_ := am (Kd.R_below (pr HO_11) hb)
      have n2_ := am (Kd.R_below (pr HO_z15002) hb)
      have n3_ := am (Kd.R_below (pr HO_z15003) hb)
      have n4_ := am (Kd.R_below (pr HOz20) hb)
      have n5_ := am (blk_below (pk BKz14) hb)
      have n6_ := am (blk_below (pk BKz16) hb)
      have n7_ := am (below_step (by repeat (first | (with_reducible first | exact HB.out | apply below_alloc | apply pw_below_drewN | apply below_drew1 | refine below_set ?_ GEz14.out | refine below_set ?_ GEz16.out) | exact HB.out)) hb)
      clear HO_10 HO_11 HO_z15002 HO_z15003 HOz20 BKz14 BKz16 HB; have HO_10 := n0_; have HO_11 := n1_; have HO_z15002 := n2_; have HO_z15003 := n3_; have HOz20 := n4_; have BKz14 := n5_; have BKz16 := n6_; have HB := n7_; clear n0_ n1_ n2_ n3_ n4_ n5_ n6_ n7_; (try clear hb); (try clear hb2); (try clear hk); (try clear hi)
      obtain ⟨Ao90, co90, eo90⟩ := Kd.R_slice HO_z15002.out
      (first | subst eo90 | (injection eo90 with f1_ f2_ f3_; have f4_ := f1_.symm; have f5_ := f3_.symm; clear f1_ f2_ f3_; subst f4_; subst f5_))
      obtain ⟨Ao91, co91, eo91⟩ := Kd.R_slice HO_z15003.out
      (first | subst eo91 | (injection eo91 with f1_ f2_ f3_; have f4_ := f1_.symm; have f5_ := f3_.symm; clear f1_ f2_ f3_; subst f4_; subst f5_))
      refine hK.out _ _ ⟨(blk_cell BKz14.out 0).trans rfl, (blk_cell BKz14.out 1).trans rfl, (blk_cell BKz14.out 2).trans rfl, (blk_cell BKz14.out 3).trans rfl, (blk_cell BKz14.out 4).trans rfl, (blk_cell BKz16.out 0).trans rfl, (blk_cell BKz16.out 1).trans rfl, (blk_cell BKz16.out 2).trans rfl⟩ (fun hHeld => ?_)
      clear hK K
      refine norm_ (by show Act.put _ (some 78) _ = _; simp only [Act.put, sa_, s0_, s1_, i64_w, i32_w]; rfl) ?_
      refine on_ 7 (some 79) HT_ rfl rfl (by kernel_rfl) (by decide) (fun K hK => ?_)
      refine goes_ Try.func41 (by kernel_rfl) rfl #[.agg #[.string xz15000_1, .int .i64 xz15001_1, .slice Ao90 xz15002_1.length co90, .slice Ao91 xz15003_1.length co91, .bool xz15004_1], .string tz35, .string tz36] (by rfl) rfl rfl (by (try simp only [List.map_toArray, List.map_cons, List.map_nil]); first | done | rfl | (simp only [List.length_drop, List.length_take]; rfl)) ?_
      with_reducible refine (ideal_Seal.calls kj14 xz15000_1 xz15001_1 _ _ xz15002_1 _ _ xz15003_1 xz15004_1 tz35 tz36 tz37 tz38 tz39 tz40 tz43 false tz47 _ ?side1 ?side2 ?side3 ?side4 A55.out).mono ?_
      (case side1 => repeat (first | exact (Kd.R_reads' HO_z15002.out).2.2 | (with_reducible refine Kd.C_alloc ?_ _) | (with_reducible refine Kd.C_drewN ?_ _) | (with_reducible refine Kd.C_drew ?_)))
      (case side2 => exact (Kd.R_reads' HO_z15002.out).2.1)
      (case side3 => repeat (first | exact (Kd.R_reads' HO_z15003.out).2.2 | (with_reducible refine Kd.C_alloc ?_ _) | (with_reducible refine Kd.C_drewN ?_ _) | (with_reducible refine Kd.C_drew ?_)))
      (case side4 => exact (Kd.R_reads' HO_z15003.out).2.1)
      rintro e w92 ⟨vz41, vz44, rfl, ho0, ho1, hb⟩
      refine ⟨_, rfl, ?_⟩
      have n0_ := am (Kd.R_below (pr HO_10) hb)
      have n1_ := am (Kd.R_below (pr HO_11) hb)
      have n2_ := am (Kd.R_elder' (pr HO_z15002) (Kd.R_base ho0) hb)
      have n3_ := am (Kd.R_elder' (pr HO_z15003) (Kd.R_base ho1) hb)
      have n4_ := am (Kd.R_below (pr HOz20) hb)
      have n5_ := am (Kd.R_lower (Kd.R_new' ho0 (Kd.R_lt (pr HO_z15002))) (below_size (by repeat (first | (with_reducible first | exact HB.out | apply below_alloc | apply pw_below_drewN | apply below_drew1 | refine below_set ?_ GEz14.out | refine below_set ?_ GEz16.out) | exact HB.out))))
      have n6_ := am (Kd.R_lower (Kd.R_new' ho1 (Kd.R_lt (pr HO_z15003))) (below_size (by repeat (first | (with_reducible first | exact HB.out | apply below_alloc | apply pw_below_drewN | apply below_drew1 | refine below_set ?_ GEz14.out | refine below_set ?_ GEz16.out) | exact HB.out))))
      have n7_ := am (blk_below (pk BKz14) hb)
      have n8_ := am (blk_below (pk BKz16) hb)
      have n9_ := am (below_step (by repeat (first | (with_reducible first | exact HB.out | apply below_alloc | apply pw_below_drewN | apply below_drew1 | refine below_set ?_ GEz14.out | refine below_set ?_ GEz16.out) | exact HB.out)) hb)
      clear HO_10 HO_11 HO_z15002 HO_z15003 HOz20 BKz14 BKz16 HB; have HO_10 := n0_; have HO_11 := n1_; have HO_z15002 := n2_; have HO_z15003 := n3_; have HOz20 := n4_; have HOz42 := n5_; have HOz45 := n6_; have BKz14 := n7_; have BKz16 := n8_; have HB := n9_; clear n0_ n1_ n2_ n3_ n4_ n5_ n6_ n7_ n8_ n9_; (try clear hb); (try clear hb2); (try clear hk); (try clear hi); (try clear ho0); (try clear ho1)
      obtain ⟨Ao95, co95, eo95⟩ := Kd.R_slice HOz42.out
      (first | subst eo95 | (injection eo95 with f1_ f2_ f3_; have f4_ := f1_.symm; have f5_ := f3_.symm; clear f1_ f2_ f3_; subst f4_; subst f5_))
      obtain ⟨Ao97, co97, eo97⟩ := Kd.R_slice HOz45.out
      (first | subst eo97 | (injection eo97 with f1_ f2_ f3_; have f4_ := f1_.symm; have f5_ := f3_.symm; clear f1_ f2_ f3_; subst f4_; subst f5_))
      refine hK.out _ _ ⟨(blk_cell BKz14.out 0).trans rfl, (blk_cell BKz14.out 1).trans rfl, (blk_cell BKz14.out 2).trans rfl, (blk_cell BKz14.out 3).trans rfl, (blk_cell BKz14.out 4).trans rfl, (blk_cell BKz16.out 0).trans rfl, (blk_cell BKz16.out 1).trans rfl, (blk_cell BKz16.out 2).trans rfl⟩ (fun hHeld => ?_)
      clear hK K
      refine norm_ (by show Act.put _ (some 79) _ = _; simp only [Act.put, sa_, s0_, s1_, i64_w, i32_w]; rfl) ?_
      refine pu_ 8 (some 71) HT_ rfl rfl (by kernel_rfl) (fun _ _ _ h => h) (.inl ⟨by rfl, by intro w'; go_simp; with_reducible rfl⟩) (by simp only [Act.put, sa_, s0_, s1_, i64_w, i32_w]; rfl) ?_
      refine pu_ 9 (some 80) HT_ rfl rfl (by kernel_rfl) (fun _ _ _ h => h) (.inl ⟨by rfl, by intro w'; go_simp; with_reducible rfl⟩) (by simp only [Act.put, sa_, s0_, s1_, i64_w, i32_w]; rfl) ?_
      refine pu_ 10 (some 81) HT_ rfl rfl (by kernel_rfl) (fun _ _ _ h => h) (.inl ⟨by rfl, by intro w'; go_simp; with_reducible rfl⟩) (by simp only [Act.put, sa_, s0_, s1_, i64_w, i32_w]; rfl) ?_
      refine pu_ 11 (some 82) HT_ rfl rfl (by kernel_rfl) (fun _ _ _ h => h) (.inl ⟨by rfl, by intro w'; go_simp; with_reducible rfl⟩) (by simp only [Act.put, sa_, s0_, s1_, i64_w, i32_w]; rfl) ?_
      refine pu_ 12 (some 15) HT_ rfl rfl (by kernel_rfl) (fun _ _ _ h => h) (.inl ⟨by rfl, by intro w'; go_simp; with_reducible rfl⟩) (by simp only [Act.put, sa_, s0_, s1_, i64_w, i32_w]; rfl) ?_
      refine la_ 13 none HT_ rfl rfl (by kernel_rfl) (by decide) (fun K hK => ?_)
      have hs93 : w92.cell? ⟨gbz14, 0, none⟩ = some (.string xz15000_1) := (blk_cell BKz14.out 0).trans rfl
      have hfs93 := blk_frozen BKz14.out 0
      have hns93_1 := NBz16_z14.out
      have hms93_1 := NBz14_z16.out
      have hs94 : w92.cell? ⟨gbz14, 1, none⟩ = some (.int .i64 xz15001_1) := (blk_cell BKz14.out 1).trans rfl
      have hfs94 := blk_frozen BKz14.out 1
      have hns94_1 := NBz16_z14.out
      have hms94_1 := NBz14_z16.out
      have hs96 : w92.cell? ⟨gbz14, 2, none⟩ = some (.slice Ao90 xz15002_1.length co90) := (blk_cell BKz14.out 2).trans rfl
      have hfs96 := blk_frozen BKz14.out 2
      have hns96_1 := NBz16_z14.out
      have hms96_1 := NBz14_z16.out
      have hs98 : w92.cell? ⟨gbz14, 3, none⟩ = some (.slice Ao91 xz15003_1.length co91) := (blk_cell BKz14.out 3).trans rfl
      have hfs98 := blk_frozen BKz14.out 3
      have hns98_1 := NBz16_z14.out
      have hms98_1 := NBz14_z16.out
      have hs99 : w92.cell? ⟨gbz14, 4, none⟩ = some (.bool xz15004_1) := (blk_cell BKz14.out 4).trans rfl
      have hfs99 := blk_frozen BKz14.out 4
      have hns99_1 := NBz16_z14.out
      have hms99_1 := NBz14_z16.out
      refine skip_ (by rfl) rfl (by go_simp; rfl) ?_
      refine hK.out _ _ ?_
      clear hK K
      refine pu_ 14 (some 9) HT_ rfl rfl (by kernel_rfl) (fun _ _ _ h => h) (.inl ⟨by rfl, by intro w'; go_simp; with_reducible rfl⟩) (by simp only [Act.put, sa_, s0_, s1_, i64_w, i32_w]; rfl) ?_
      refine done_ (done_of HT_.out (by kernel_rfl)) ?_
      try go_wp2
      have n0_ : Aside0 (Kd.R Kd.string 9 (((((w92.setCell ⟨gbz14, 0, none⟩ (.string tz38)).setCell ⟨gbz14, 1, none⟩ (.int .i64 tz39)).setCell ⟨gbz14, 2, none⟩ (.slice Ao95 tz40.length co95)).setCell ⟨gbz14, 3, none⟩ (.slice Ao97 tz43.length co97)).setCell ⟨gbz14, 4, none⟩ (.bool false)) w.heap.size (fun k_ => some k_ ≠ (u11 : Value).ownBlock) u10 x10_1) := ⟨by (with_reducible repeat (first | apply Kd.R_alloc | apply Kd.R_drewN | apply Kd.R_drew)); exact Kd.R_mono (rf5 (Kd.R_types HO_10.out BKz14.out (by decide)) (fun _ hk => hk.2)) (fun _ hk => hk.1)⟩
      have n1_ : Aside0 (Kd.R Kd.string 9 (((((w92.setCell ⟨gbz14, 0, none⟩ (.string tz38)).setCell ⟨gbz14, 1, none⟩ (.int .i64 tz39)).setCell ⟨gbz14, 2, none⟩ (.slice Ao95 tz40.length co95)).setCell ⟨gbz14, 3, none⟩ (.slice Ao97 tz43.length co97)).setCell ⟨gbz14, 4, none⟩ (.bool false)) w.heap.size (fun k_ => some k_ ≠ (u10 : Value).ownBlock) u11 x11_1) := ⟨by (with_reducible repeat (first | apply Kd.R_alloc | apply Kd.R_drewN | apply Kd.R_drew)); exact Kd.R_mono (rf5 (Kd.R_types HO_11.out BKz14.out (by decide)) (fun _ hk => hk.2)) (fun _ hk => hk.1)⟩
      have n2_ : Aside0 (Kd.R k72 72 (((((w92.setCell ⟨gbz14, 0, none⟩ (.string tz38)).setCell ⟨gbz14, 1, none⟩ (.int .i64 tz39)).setCell ⟨gbz14, 2, none⟩ (.slice Ao95 tz40.length co95)).setCell ⟨gbz14, 3, none⟩ (.slice Ao97 tz43.length co97)).setCell ⟨gbz14, 4, none⟩ (.bool false)) w.heap.size (fun k_ => some k_ ≠ (.slice Ao95 tz40.length co95 : Value).ownBlock) (.slice Ao90 xz15002_1.length co90) xz15002_1) := ⟨by (with_reducible repeat (first | apply Kd.R_alloc | apply Kd.R_drewN | apply Kd.R_drew)); exact Kd.R_mono (rf5 (Kd.R_types HO_z15002.out BKz14.out (by decide)) (fun _ hk => hk.2)) (fun _ hk => hk.1.2)⟩
      have n3_ : Aside0 (Kd.R k74 74 (((((w92.setCell ⟨gbz14, 0, none⟩ (.string tz38)).setCell ⟨gbz14, 1, none⟩ (.int .i64 tz39)).setCell ⟨gbz14, 2, none⟩ (.slice Ao95 tz40.length co95)).setCell ⟨gbz14, 3, none⟩ (.slice Ao97 tz43.length co97)).setCell ⟨gbz14, 4, none⟩ (.bool false)) w.heap.size (fun k_ => some k_ ≠ (.slice Ao97 tz43.length co97 : Value).ownBlock) (.slice Ao91 xz15003_1.length co91) xz15003_1) := ⟨by (with_reducible repeat (first | apply Kd.R_alloc | apply Kd.R_drewN | apply Kd.R_drew)); exact Kd.R_mono (rf5 (Kd.R_types HO_z15003.out BKz14.out (by decide)) (fun _ hk => hk.2)) (fun _ hk => hk.1.2)⟩
      have n4_ : Aside0 (Kd.R (Kd.int .u8) 5 (((((w92.setCell ⟨gbz14, 0, none⟩ (.string tz38)).setCell ⟨gbz14, 1, none⟩ (.int .i64 tz39)).setCell ⟨gbz14, 2, none⟩ (.slice Ao95 tz40.length co95)).setCell ⟨gbz14, 3, none⟩ (.slice Ao97 tz43.length co97)).setCell ⟨gbz14, 4, none⟩ (.bool false)) w.heap.size (fun _ => True) vz19 yz18) := ⟨by (with_reducible repeat (first | apply Kd.R_alloc | apply Kd.R_drewN | apply Kd.R_drew)); exact Kd.R_mono (rf5 (Kd.R_types HOz20.out BKz14.out (by decide)) (fun _ hk => hk.2)) (fun _ hk => trivial)⟩
      have n5_ : Aside0 (Kd.R k72 72 (((((w92.setCell ⟨gbz14, 0, none⟩ (.string tz38)).setCell ⟨gbz14, 1, none⟩ (.int .i64 tz39)).setCell ⟨gbz14, 2, none⟩ (.slice Ao95 tz40.length co95)).setCell ⟨gbz14, 3, none⟩ (.slice Ao97 tz43.length co97)).setCell ⟨gbz14, 4, none⟩ (.bool false)) w.heap.size (fun k_ => some k_ ≠ (.slice Ao90 xz15002_1.length co90 : Value).ownBlock) (.slice Ao95 tz40.length co95) tz40) := ⟨by (with_reducible repeat (first | apply Kd.R_alloc | apply Kd.R_drewN | apply Kd.R_drew)); exact Kd.R_mono (rf5 (Kd.R_types HOz42.out BKz14.out (by decide)) (fun _ hk => hk.2)) (fun _ hk => hk.1.2)⟩
      have n6_ : Aside0 (Kd.R k74 74 (((((w92.setCell ⟨gbz14, 0, none⟩ (.string tz38)).setCell ⟨gbz14, 1, none⟩ (.int .i64 tz39)).setCell ⟨gbz14, 2, none⟩ (.slice Ao95 tz40.length co95)).setCell ⟨gbz14, 3, none⟩ (.slice Ao97 tz43.length co97)).setCell ⟨gbz14, 4, none⟩ (.bool false)) w.heap.size (fun k_ => some k_ ≠ (.slice Ao91 xz15003_1.length co91 : Value).ownBlock) (.slice Ao97 tz43.length co97) tz43) := ⟨by (with_reducible repeat (first | apply Kd.R_alloc | apply Kd.R_drewN | apply Kd.R_drew)); exact Kd.R_mono (rf5 (Kd.R_types HOz45.out BKz14.out (by decide)) (fun _ hk => hk.2)) (fun _ hk => hk.1.2)⟩
      have n7_ : Aside0 ((((((w92.setCell ⟨gbz14, 0, none⟩ (.string tz38)).setCell ⟨gbz14, 1, none⟩ (.int .i64 tz39)).setCell ⟨gbz14, 2, none⟩ (.slice Ao95 tz40.length co95)).setCell ⟨gbz14, 3, none⟩ (.slice Ao97 tz43.length co97)).setCell ⟨gbz14, 4, none⟩ (.bool false)).heap[gbz14]? = some (.cells #[.string tz38, .int .i64 tz39, .slice Ao95 tz40.length co95, .slice Ao97 tz43.length co97, .bool false] 50 (0, 0))) := ⟨by (with_reducible repeat (first | refine blk_drewN ?_ _ | refine blk_drew ?_ | refine blk_alloc ?_ _)); refine blk_put (cs := #[.string tz38, .int .i64 tz39, .slice Ao95 tz40.length co95, .slice Ao97 tz43.length co97, .bool xz15004_1]) ?_ 4 _ rfl; (with_reducible repeat (first | refine blk_drewN ?_ _ | refine blk_drew ?_ | refine blk_alloc ?_ _)); refine blk_put (cs := #[.string tz38, .int .i64 tz39, .slice Ao95 tz40.length co95, .slice Ao91 xz15003_1.length co91, .bool xz15004_1]) ?_ 3 _ rfl; (with_reducible repeat (first | refine blk_drewN ?_ _ | refine blk_drew ?_ | refine blk_alloc ?_ _)); refine blk_put (cs := #[.string tz38, .int .i64 tz39, .slice Ao90 xz15002_1.length co90, .slice Ao91 xz15003_1.length co91, .bool xz15004_1]) ?_ 2 _ rfl; (with_reducible repeat (first | refine blk_drewN ?_ _ | refine blk_drew ?_ | refine blk_alloc ?_ _)); refine blk_put (cs := #[.string tz38, .int .i64 xz15001_1, .slice Ao90 xz15002_1.length co90, .slice Ao91 xz15003_1.length co91, .bool xz15004_1]) ?_ 1 _ rfl; (with_reducible repeat (first | refine blk_drewN ?_ _ | refine blk_drew ?_ | refine blk_alloc ?_ _)); refine blk_put (cs := #[.string xz15000_1, .int .i64 xz15001_1, .slice Ao90 xz15002_1.length co90, .slice Ao91 xz15003_1.length co91, .bool xz15004_1]) ?_ 0 _ rfl; (with_reducible repeat (first | refine blk_drewN ?_ _ | refine blk_drew ?_ | refine blk_alloc ?_ _)); exact BKz14.out⟩
      have n8_ : Aside0 ((((((w92.setCell ⟨gbz14, 0, none⟩ (.string tz38)).setCell ⟨gbz14, 1, none⟩ (.int .i64 tz39)).setCell ⟨gbz14, 2, none⟩ (.slice Ao95 tz40.length co95)).setCell ⟨gbz14, 3, none⟩ (.slice Ao97 tz43.length co97)).setCell ⟨gbz14, 4, none⟩ (.bool false)).heap[gbz16]? = some (.cells #[.int .i64 ((rd_T46 l2 x12_1).f0), .int .i64 ((rd_T46 l2 x12_1).f1), .int .i64 ((rd_T46 l2 x12_1).f2)] 46 (0, 0))) := ⟨by (with_reducible repeat (first | refine blk_drewN ?_ _ | refine blk_drew ?_ | refine blk_alloc ?_ _)); refine blk_far ?_ NBz16_z14.out _; (with_reducible repeat (first | refine blk_drewN ?_ _ | refine blk_drew ?_ | refine blk_alloc ?_ _)); refine blk_far ?_ NBz16_z14.out _; (with_reducible repeat (first | refine blk_drewN ?_ _ | refine blk_drew ?_ | refine blk_alloc ?_ _)); refine blk_far ?_ NBz16_z14.out _; (with_reducible repeat (first | refine blk_drewN ?_ _ | refine blk_drew ?_ | refine blk_alloc ?_ _)); refine blk_far ?_ NBz16_z14.out _; (with_reducible repeat (first | refine blk_drewN ?_ _ | refine blk_drew ?_ | refine blk_alloc ?_ _)); refine blk_far ?_ NBz16_z14.out _; (with_reducible repeat (first | refine blk_drewN ?_ _ | refine blk_drew ?_ | refine blk_alloc ?_ _)); exact BKz16.out⟩
      have n9_ : Aside0 (Below w.heap.size w (((((w92.setCell ⟨gbz14, 0, none⟩ (.string tz38)).setCell ⟨gbz14, 1, none⟩ (.int .i64 tz39)).setCell ⟨gbz14, 2, none⟩ (.slice Ao95 tz40.length co95)).setCell ⟨gbz14, 3, none⟩ (.slice Ao97 tz43.length co97)).setCell ⟨gbz14, 4, none⟩ (.bool false))) := ⟨by repeat (first | (with_reducible first | exact HB.out | apply below_alloc | apply pw_below_drewN | apply below_drew1 | refine below_set ?_ GEz14.out | refine below_set ?_ GEz16.out) | exact HB.out)⟩
      (try clear HO_10); (try clear HO_11); (try clear HO_z15002); (try clear HO_z15003); (try clear HOz20); (try clear HOz42); (try clear HOz45); (try clear BKz14); (try clear BKz16); (try clear HB)
      generalize (((((w92.setCell ⟨gbz14, 0, none⟩ (.string tz38)).setCell ⟨gbz14, 1, none⟩ (.int .i64 tz39)).setCell ⟨gbz14, 2, none⟩ (.slice Ao95 tz40.length co95)).setCell ⟨gbz14, 3, none⟩ (.slice Ao97 tz43.length co97)).setCell ⟨gbz14, 4, none⟩ (.bool false)) = w100 at n0_ n1_ n2_ n3_ n4_ n5_ n6_ n7_ n8_ n9_ ⊢
      have HO_10 := n0_; have HO_11 := n1_; have HO_z15002 := n2_; have HO_z15003 := n3_; have HOz20 := n4_; have HOz42 := n5_; have HOz45 := n6_; have BKz14 := n7_; have BKz16 := n8_; have HB := n9_; clear n0_ n1_ n2_ n3_ n4_ n5_ n6_ n7_ n8_ n9_
      have n0_ := am (Kd.R_drew HO_10.out)
      have n1_ := am (Kd.R_drew HO_11.out)
      have n2_ := am (Kd.R_drew HO_z15002.out)
      have n3_ := am (Kd.R_drew HO_z15003.out)
      have n4_ := am (Kd.R_drew HOz20.out)
      have n5_ := am (Kd.R_drew HOz42.out)
      have n6_ := am (Kd.R_drew HOz45.out)
      have n7_ := am (blk_drew BKz14.out)
      have n8_ := am (blk_drew BKz16.out)
      have n9_ := am (below_drew1 HB.out)
      clear HO_10 HO_11 HO_z15002 HO_z15003 HOz20 HOz42 HOz45 BKz14 BKz16 HB; have HO_10 := n0_; have HO_11 := n1_; have HO_z15002 := n2_; have HO_z15003 := n3_; have HOz20 := n4_; have HOz42 := n5_; have HOz45 := n6_; have BKz14 := n7_; have BKz16 := n8_; have HB := n9_; clear n0_ n1_ n2_ n3_ n4_ n5_ n6_ n7_ n8_ n9_
      refine start_ (n := 11) (S := fun w' => w'.cell? ⟨gbz14, 0, none⟩ = some (.string tz38) ∧ w'.cell? ⟨gbz14, 1, none⟩ = some (.int .i64 tz39) ∧ w'.cell? ⟨gbz14, 2, none⟩ = some (.slice Ao95 tz40.length co95) ∧ w'.cell? ⟨gbz14, 3, none⟩ = some (.slice Ao97 tz43.length co97) ∧ w'.cell? ⟨gbz14, 4, none⟩ = some (.bool false) ∧ w'.cell? ⟨gbz16, 0, none⟩ = some (.int .i64 ((rd_T46 l2 x12_1).f0)) ∧ w'.cell? ⟨gbz16, 1, none⟩ = some (.int .i64 ((rd_T46 l2 x12_1).f1)) ∧ w'.cell? ⟨gbz16, 2, none⟩ = some (.int .i64 ((rd_T46 l2 x12_1).f2))) (ds := []) #[false, false, false, false, false, false, false, false, false, false, false] (by kernel_rfl) rfl rfl ⟨(blk_cell BKz14.out 0).trans rfl, (blk_cell BKz14.out 1).trans rfl, (blk_cell BKz14.out 2).trans rfl, (blk_cell BKz14.out 3).trans rfl, (blk_cell BKz14.out 4).trans rfl, (blk_cell BKz16.out 0).trans rfl, (blk_cell BKz16.out 1).trans rfl, (blk_cell BKz16.out 2).trans rfl⟩ (fun hHeld => ?_); refine with_tabW columbariumlaw08_IdealKeeps.tab17 columbariumlaw08_IdealKeeps.bits17 (fun HT_ HW_ => ?_)
      generalize w100.drew = w101 at HO_10 HO_11 HO_z15002 HO_z15003 HOz20 HOz42 HOz45 BKz14 BKz16 HB hHeld ⊢
      refine pu_ 1 (some 85) HT_ rfl rfl (by kernel_rfl) (fun _ _ _ h => h) (.inl ⟨by rfl, by intro w'; go_simp; with_reducible rfl⟩) (by simp only [Act.put, sa_, s0_, s1_, i64_w, i32_w]; rfl) ?_
      refine pu_ 4 (some 88) HT_ rfl rfl (by kernel_rfl) (fun _ _ _ h => h) (.inl ⟨by rfl, by intro w'; go_simp; with_reducible rfl⟩) (by simp only [Act.put, sa_, s0_, s1_, i64_w, i32_w]; rfl) ?_
      refine tk_ 0 (some 84) HT_ HW_ rfl rfl (by kernel_rfl) (fun _ _ _ h => h) (.inl ⟨by rfl, by rintro w' ⟨s0, s1, s2, s3, s4, s5, s6, s7⟩; go_simp; with_reducible rfl⟩) hHeld (by simp only [Act.put, sa_, s0_, s1_, i64_w, i32_w]; rfl) ?_
      refine tk_ 2 (some 86) HT_ HW_ rfl rfl (by kernel_rfl) (fun _ _ _ h => h) (.inl ⟨by rfl, by rintro w' ⟨s0, s1, s2, s3, s4, s5, s6, s7⟩; go_simp; with_reducible rfl⟩) hHeld (by simp only [Act.put, sa_, s0_, s1_, i64_w, i32_w]; rfl) ?_
      refine on_ 3 (some 87) HT_ rfl rfl (by kernel_rfl) (by decide) (fun K hK => ?_)
      refine goes_ Try.func39 (by kernel_rfl) rfl #[.int .i64 ((rd_T46 l2 x12_1).f1)] (by rfl) rfl rfl (by (try simp only [List.map_toArray, List.map_cons, List.map_nil]); first | done | rfl | (simp only [List.length_drop, List.length_take]; rfl)) ?_
      with_reducible refine (columbariumlaw08_Label.calls ((rd_T46 l2 x12_1).f1) tz48 _ A56.out).mono ?_
      rintro e w102 ⟨rfl, hb⟩
      refine ⟨_, rfl, ?_⟩
      have n0_ := am (Kd.R_below (pr HO_10) hb)
      have n1_ := am (Kd.R_below (pr HO_11) hb)
      have n2_ := am (Kd.R_below (pr HO_z15002) hb)
      have n3_ := am (Kd.R_below (pr HO_z15003) hb)
      have n4_ := am (Kd.R_below (pr HOz20) hb)
      have n5_ := am (Kd.R_below (pr HOz42) hb)
      have n6_ := am (Kd.R_below (pr HOz45) hb)
      have n7_ := am (blk_below (pk BKz14) hb)
      have n8_ := am (blk_below (pk BKz16) hb)
      have n9_ := am (below_step (by repeat (first | (with_reducible first | exact HB.out | apply below_alloc | apply pw_below_drewN | apply below_drew1 | refine below_set ?_ GEz14.out | refine below_set ?_ GEz16.out) | exact HB.out)) hb)
      clear HO_10 HO_11 HO_z15002 HO_z15003 HOz20 HOz42 HOz45 BKz14 BKz16 HB; have HO_10 := n0_; have HO_11 := n1_; have HO_z15002 := n2_; have HO_z15003 := n3_; have HOz20 := n4_; have HOz42 := n5_; have HOz45 := n6_; have BKz14 := n7_; have BKz16 := n8_; have HB := n9_; clear n0_ n1_ n2_ n3_ n4_ n5_ n6_ n7_ n8_ n9_; (try clear hb); (try clear hb2); (try clear hk); (try clear hi)
      refine hK.out _ _ ⟨(blk_cell BKz14.out 0).trans rfl, (blk_cell BKz14.out 1).trans rfl, (blk_cell BKz14.out 2).trans rfl, (blk_cell BKz14.out 3).trans rfl, (blk_cell BKz14.out 4).trans rfl, (blk_cell BKz16.out 0).trans rfl, (blk_cell BKz16.out 1).trans rfl, (blk_cell BKz16.out 2).trans rfl⟩ (fun hHeld => ?_)
      clear hK K
      refine norm_ (by show Act.put _ (some 87) _ = _; simp only [Act.put, sa_, s0_, s1_, i64_w, i32_w]; rfl) ?_
      refine on_ 5 (some 89) HT_ rfl rfl (by kernel_rfl) (by decide) (fun K hK => ?_)
      refine goes_ Try.func43 (by kernel_rfl) rfl #[.agg #[.string tz38, .int .i64 tz39, .slice Ao95 tz40.length co95, .slice Ao97 tz43.length co97, .bool false], .string tz48, .string tz37] (by rfl) rfl rfl (by (try simp only [List.map_toArray, List.map_cons, List.map_nil]); first | done | rfl | (simp only [List.length_drop, List.length_take]; rfl)) ?_
      with_reducible refine (ideal_Open.calls tz38 tz39 _ _ tz40 _ _ tz43 false tz48 tz37 tz49 tz50 _ ?side1 ?side2 ?side3 ?side4 A57.out).mono ?_
      (case side1 => repeat (first | exact (Kd.R_reads' HOz42.out).2.2 | (with_reducible refine Kd.C_alloc ?_ _) | (with_reducible refine Kd.C_drewN ?_ _) | (with_reducible refine Kd.C_drew ?_)))
      (case side2 => exact (Kd.R_reads' HOz42.out).2.1)
      (case side3 => repeat (first | exact (Kd.R_reads' HOz45.out).2.2 | (with_reducible refine Kd.C_alloc ?_ _) | (with_reducible refine Kd.C_drewN ?_ _) | (with_reducible refine Kd.C_drew ?_)))
      (case side4 => exact (Kd.R_reads' HOz45.out).2.1)
      rintro e w103 ⟨rfl, hb⟩
      refine ⟨_, rfl, ?_⟩
      have n0_ := am (Kd.R_below (pr HO_10) hb)
      have n1_ := am (Kd.R_below (pr HO_11) hb)
      have n2_ := am (Kd.R_below (pr HO_z15002) hb)
      have n3_ := am (Kd.R_below (pr HO_z15003) hb)
      have n4_ := am (Kd.R_below (pr HOz20) hb)
      have n5_ := am (Kd.R_below (pr HOz42) hb)
      have n6_ := am (Kd.R_below (pr HOz45) hb)
      have n7_ := am (blk_below (pk BKz14) hb)
      have n8_ := am (blk_below (pk BKz16) hb)
      have n9_ := am (below_step (by repeat (first | (with_reducible first | exact HB.out | apply below_alloc | apply pw_below_drewN | apply below_drew1 | refine below_set ?_ GEz14.out | refine below_set ?_ GEz16.out) | exact HB.out)) hb)
      clear HO_10 HO_11 HO_z15002 HO_z15003 HOz20 HOz42 HOz45 BKz14 BKz16 HB; have HO_10 := n0_; have HO_11 := n1_; have HO_z15002 := n2_; have HO_z15003 := n3_; have HOz20 := n4_; have HOz42 := n5_; have HOz45 := n6_; have BKz14 := n7_; have BKz16 := n8_; have HB := n9_; clear n0_ n1_ n2_ n3_ n4_ n5_ n6_ n7_ n8_ n9_; (try clear hb); (try clear hb2); (try clear hk); (try clear hi)
      refine hK.out _ _ ⟨(blk_cell BKz14.out 0).trans rfl, (blk_cell BKz14.out 1).trans rfl, (blk_cell BKz14.out 2).trans rfl, (blk_cell BKz14.out 3).trans rfl, (blk_cell BKz14.out 4).trans rfl, (blk_cell BKz16.out 0).trans rfl, (blk_cell BKz16.out 1).trans rfl, (blk_cell BKz16.out 2).trans rfl⟩ (fun hHeld => ?_)
      clear hK K
      refine norm_ (by show Act.put _ (some 89) _ = _; simp only [Act.put, sa_, s0_, s1_, i64_w, i32_w]; rfl) ?_
      refine pu_ 6 (some 83) HT_ rfl rfl (by kernel_rfl) (fun _ _ _ h => h) (.inl ⟨by rfl, by intro w'; go_simp; with_reducible rfl⟩) (by simp only [Act.put, sa_, s0_, s1_, i64_w, i32_w]; rfl) ?_
      refine pu_ 7 (some 90) HT_ rfl rfl (by kernel_rfl) (fun _ _ _ h => h) (.inl ⟨by rfl, by intro w'; go_simp; with_reducible rfl⟩) (by simp only [Act.put, sa_, s0_, s1_, i64_w, i32_w]; rfl) ?_
      refine pu_ 8 (some 91) HT_ rfl rfl (by kernel_rfl) (fun _ _ _ h => h) (.inl ⟨by rfl, by intro w'; go_simp; with_reducible rfl⟩) (by simp only [Act.put, sa_, s0_, s1_, i64_w, i32_w]; rfl) ?_
      refine pu_ 9 (some 16) HT_ rfl rfl (by kernel_rfl) (fun _ _ _ h => h) (.inl ⟨by rfl, by intro w'; go_simp; with_reducible rfl⟩) (by simp only [Act.put, sa_, s0_, s1_, i64_w, i32_w]; rfl) ?_
      refine pu_ 10 (some 17) HT_ rfl rfl (by kernel_rfl) (fun _ _ _ h => h) (.inl ⟨by rfl, by intro w'; go_simp; with_reducible rfl⟩) (by simp only [Act.put, sa_, s0_, s1_, i64_w, i32_w]; rfl) ?_
      refine done_ (done_of HT_.out (by kernel_rfl)) ?_
      have hnb104 := NBz14_z16.out
      have hnc104 := NBz16_z14.out
      have hcz105_0 : w103.cell? ⟨gbz14, 0, none⟩ = some (.string tz38) := (blk_cell BKz14.out 0).trans rfl
      have hcz105_1 : w103.cell? ⟨gbz14, 1, none⟩ = some (.int .i64 tz39) := (blk_cell BKz14.out 1).trans rfl
      have hcz105_2 : w103.cell? ⟨gbz14, 2, none⟩ = some (.slice Ao95 tz40.length co95) := (blk_cell BKz14.out 2).trans rfl
      have hcz105_3 : w103.cell? ⟨gbz14, 3, none⟩ = some (.slice Ao97 tz43.length co97) := (blk_cell BKz14.out 3).trans rfl
      have hcz105_4 : w103.cell? ⟨gbz14, 4, none⟩ = some (.bool false) := (blk_cell BKz14.out 4).trans rfl
      have hfz105_0 := blk_frozen BKz14.out 0
      have hfz105_1 := blk_frozen BKz14.out 1
      have hfz105_2 := blk_frozen BKz14.out 2
      have hfz105_3 := blk_frozen BKz14.out 3
      have hfz105_4 := blk_frozen BKz14.out 4
      have hcz106_0 : w103.cell? ⟨gbz16, 0, none⟩ = some (.int .i64 ((rd_T46 l2 x12_1).f0)) := (blk_cell BKz16.out 0).trans rfl
      have hcz106_1 : w103.cell? ⟨gbz16, 1, none⟩ = some (.int .i64 ((rd_T46 l2 x12_1).f1)) := (blk_cell BKz16.out 1).trans rfl
      have hcz106_2 : w103.cell? ⟨gbz16, 2, none⟩ = some (.int .i64 ((rd_T46 l2 x12_1).f2)) := (blk_cell BKz16.out 2).trans rfl
      have hfz106_0 := blk_frozen BKz16.out 0
      have hfz106_1 := blk_frozen BKz16.out 1
      have hfz106_2 := blk_frozen BKz16.out 2
      try go_wp2_with (first | (go_at_call 40; (with_reducible refine (columbariumlaw08_Text.calls ((rd_T46 l2 x12_1).f2) tz51 _ A82.out).mono ?_); rintro e w107 ⟨rfl, hb⟩; have n0_ := am (Kd.R_below (pr HO_10) hb); have n1_ := am (Kd.R_below (pr HO_11) hb); have n2_ := am (Kd.R_below (pr HO_z15002) hb); have n3_ := am (Kd.R_below (pr HO_z15003) hb); have n4_ := am (Kd.R_below (pr HOz20) hb); have n5_ := am (Kd.R_below (pr HOz42) hb); have n6_ := am (Kd.R_below (pr HOz45) hb); have n7_ := am (blk_below (pk BKz14) hb); have n8_ := am (blk_below (pk BKz16) hb); have n9_ := am (below_step (by repeat (first | (with_reducible first | exact HB.out | apply below_alloc | apply pw_below_drewN | apply below_drew1 | refine below_set ?_ GEz14.out | refine below_set ?_ GEz16.out) | exact HB.out)) hb); clear HO_10; clear HO_11; clear HO_z15002; clear HO_z15003; clear HOz20; clear HOz42; clear HOz45; clear BKz14; clear BKz16; clear HB; have HO_10 := n0_; have HO_11 := n1_; have HO_z15002 := n2_; have HO_z15003 := n3_; have HOz20 := n4_; have HOz42 := n5_; have HOz45 := n6_; have BKz14 := n7_; have BKz16 := n8_; have HB := n9_; clear n0_ n1_ n2_ n3_ n4_ n5_ n6_ n7_ n8_ n9_; (try clear hb); (try clear hb2); (try clear hk); (try clear hi)))
      go_meet
      case rel => exact ⟨_, (tz47), (sx52), (tz37), (tz38), (tz39), (tz40), (tz43), (false), (.slice Ao95 tz40.length co95), (.slice Ao97 tz43.length co97), (by first | rfl | (simp; done) | (simp [*]; done)), (by first | rfl | (simp; done) | (simp only [← hsx52] <;> (first | rfl | simp)) | (simp [*]; done)), (by first | rfl | (simp; done) | (simp [*]; done)), H', ⟨by have := HK1.out; have := HJ14.out; first | omega | exact Nat.le_refl _⟩, ⟨by (with_reducible repeat (first | apply Kd.R_alloc | apply Kd.R_drewN | apply Kd.R_drew)); exact HO_10.out⟩, ⟨by (with_reducible repeat (first | apply Kd.R_alloc | apply Kd.R_drewN | apply Kd.R_drew)); exact HO_11.out⟩, ⟨by (with_reducible repeat (first | apply Kd.R_alloc | apply Kd.R_drewN | apply Kd.R_drew)); exact Kd.R_mono HOz42.out (fun _ hk => trivial)⟩, ⟨by (with_reducible repeat (first | apply Kd.R_alloc | apply Kd.R_drewN | apply Kd.R_drew)); exact Kd.R_mono HOz45.out (fun _ hk => trivial)⟩, ⟨by (with_reducible repeat (first | refine blk_drewN ?_ _ | refine blk_drew ?_ | refine blk_alloc ?_ _)); exact BKz14.out⟩, ⟨by (with_reducible repeat (first | refine blk_drewN ?_ _ | refine blk_drew ?_ | refine blk_alloc ?_ _)); exact BKz16.out⟩, ⟨by repeat (first | (with_reducible first | exact HB.out | apply below_alloc | apply pw_below_drewN | apply below_drew1 | refine below_set ?_ GEz14.out | refine below_set ?_ GEz16.out) | exact HB.out)⟩⟩
  clear HC24
  try clear c1
  try clear p2
  try clear c3
  try clear c4
  try clear c5
  try clear c8
  try clear c10
  try clear c39
  try clear c40
  try clear c41
  try clear c43
  try clear c48
  try clear c51
  try clear c58
  try clear c83
  try clear c104
  try clear hcz105_0
  try clear hcz105_1
  try clear hcz105_2
  try clear hcz105_3
  try clear hcz105_4
  try clear hcz106_0
  try clear hcz106_1
  try clear hcz106_2
  try clear hfz105_0
  try clear hfz105_1
  try clear hfz105_2
  try clear hfz105_3
  try clear hfz105_4
  try clear hfz106_0
  try clear hfz106_1
  try clear hfz106_2
  obtain ⟨kq, x9_23, x14_23, x15_23, xz15000_23, xz15001_23, xz15002_23, xz15003_23, xz15004_23, uz15002, uz15003, rfl, rfl, rfl, HA, HJ23, HO_10, HO_11, HO_z15002, HO_z15003, BKz14, BKz16, HB⟩ := hcut
  cases kq with
  | zero => exact absurd HA.out (by simp [columbariumlaw08_IdealKeeps.j2])
  | succ kj23 => ?_
  have H := HA.out
  clear HA
  simp only [columbariumlaw08_IdealKeeps.j2] at H
  have HC108 := am H
  clear H
  go_upto_region 20 with (fail)
  go_cut [112] (fun v112 wc => ∃ (kq : Nat) (x112_107 : Bool), v112 = .bool x112_107 ∧ Aside0 (columbariumlaw08_IdealKeeps.j3 kq l2 tz1 x10_1 x11_1 x12_1 x14_23 x15_23 x112_107 xz15000_23 xz15001_23 xz15002_23 xz15003_23 xz15004_23 = some r) ∧ Aside0 (kq ≤ kj23) ∧ Aside0 (Kd.R Kd.string 9 wc w.heap.size (fun k_ => some k_ ≠ (u11 : Value).ownBlock) u10 x10_1) ∧ Aside0 (Kd.R Kd.string 9 wc w.heap.size (fun k_ => some k_ ≠ (u10 : Value).ownBlock) u11 x11_1) ∧ Aside0 (Kd.R k72 72 wc w.heap.size (fun _ => True) uz15002 xz15002_23) ∧ Aside0 (Kd.R k74 74 wc w.heap.size (fun _ => True) uz15003 xz15003_23) ∧ Aside0 (wc.heap[gbz14]? = some (.cells #[.string xz15000_23, .int .i64 xz15001_23, uz15002, uz15003, .bool xz15004_23] 50 (0, 0))) ∧ Aside0 (wc.heap[gbz16]? = some (.cells #[.int .i64 ((rd_T46 l2 x12_1).f0), .int .i64 ((rd_T46 l2 x12_1).f1), .int .i64 ((rd_T46 l2 x12_1).f2)] 46 (0, 0))) ∧ Aside0 (Below w.heap.size w wc))
  case first =>
   have H := HC108.out
   clear HC108
   by_cases c109 : x9_23 = 0
   rotate_left
   ·rw [if_neg c109] at H
    have c109b0 : (x9_23 == 0) = false := beq_eq_false_iff_ne.mpr c109
    have c109b1 : (x9_23 != 0) = true := bne_iff_ne.mpr c109
    (first | rw [c109b0] | rw [c109b1] | (simp only [i64_w, i32_w]; rw [c109b0]) | skip)
    have H' := am H
    clear H
    go_wp2
    go_meet
    case rel => exact ⟨_, (true), (by first | rfl | (simp; done) | (simp [*]; done)), H', ⟨by have := HK1.out; have := HJ14.out; have := HJ23.out; first | omega | exact Nat.le_refl _⟩, ⟨by (with_reducible repeat (first | apply Kd.R_alloc | apply Kd.R_drewN | apply Kd.R_drew)); exact HO_10.out⟩, ⟨by (with_reducible repeat (first | apply Kd.R_alloc | apply Kd.R_drewN | apply Kd.R_drew)); exact HO_11.out⟩, ⟨by (with_reducible repeat (first | apply Kd.R_alloc | apply Kd.R_drewN | apply Kd.R_drew)); exact HO_z15002.out⟩, ⟨by (with_reducible repeat (first | apply Kd.R_alloc | apply Kd.R_drewN | apply Kd.R_drew)); exact HO_z15003.out⟩, ⟨by (with_reducible repeat (first | refine blk_drewN ?_ _ | refine blk_drew ?_ | refine blk_alloc ?_ _)); exact BKz14.out⟩, ⟨by (with_reducible repeat (first | refine blk_drewN ?_ _ | refine blk_drew ?_ | refine blk_alloc ?_ _)); exact BKz16.out⟩, ⟨by repeat (first | (with_reducible first | exact HB.out | apply below_alloc | apply pw_below_drewN | apply below_drew1 | refine below_set ?_ GEz14.out | refine below_set ?_ GEz16.out) | exact HB.out)⟩⟩
   rw [if_pos c109] at H
   have c109b0 : (x9_23 == 0) = true := beq_iff_eq.mpr c109
   have c109b1 : (x9_23 != 0) = false := bne_eq_false_iff_eq.mpr c109
   clear c109
   (first | rw [c109b0] | rw [c109b1] | (simp only [i64_w, i32_w]; rw [c109b0]) | skip)
   replace H := Option.bind_eq_some_iff.mp H
   obtain ⟨tz52, A1100, H⟩ := H
   replace H : (columbariumlaw08_IdealKeeps.j3 kj23 l2 tz1 x10_1 x11_1 x12_1 x14_23 x15_23 (!tz52) xz15000_23 xz15001_23 xz15002_23 xz15003_23 xz15004_23) = some r := H
   have A110 := Aside0.mk A1100
   clear A1100
   have H' := am H
   clear H
   have hnb111 := NBz14_z16.out
   have hnc111 := NBz16_z14.out
   have hcz112_0 : wc.cell? ⟨gbz14, 0, none⟩ = some (.string xz15000_23) := (blk_cell BKz14.out 0).trans rfl
   have hcz112_1 : wc.cell? ⟨gbz14, 1, none⟩ = some (.int .i64 xz15001_23) := (blk_cell BKz14.out 1).trans rfl
   have hcz112_2 : wc.cell? ⟨gbz14, 2, none⟩ = some (uz15002) := (blk_cell BKz14.out 2).trans rfl
   have hcz112_3 : wc.cell? ⟨gbz14, 3, none⟩ = some (uz15003) := (blk_cell BKz14.out 3).trans rfl
   have hcz112_4 : wc.cell? ⟨gbz14, 4, none⟩ = some (.bool xz15004_23) := (blk_cell BKz14.out 4).trans rfl
   have hfz112_0 := blk_frozen BKz14.out 0
   have hfz112_1 := blk_frozen BKz14.out 1
   have hfz112_2 := blk_frozen BKz14.out 2
   have hfz112_3 := blk_frozen BKz14.out 3
   have hfz112_4 := blk_frozen BKz14.out 4
   obtain ⟨Ao113, co113, eo113⟩ := Kd.R_slice HO_z15002.out
   subst eo113
   obtain ⟨Ao114, co114, eo114⟩ := Kd.R_slice HO_z15003.out
   subst eo114
   go_wp2_with (first | (go_at_call 37; (with_reducible refine (ideal_Right.calls xz15000_23 xz15001_23 _ _ xz15002_23 _ _ xz15003_23 xz15004_23 tz52 _ ?side1 ?side2 ?side3 ?side4 A110.out).mono ?_); (case side1 => repeat (first | exact (Kd.R_reads' HO_z15002.out).2.2 | (with_reducible refine Kd.C_alloc ?_ _) | (with_reducible refine Kd.C_drewN ?_ _) | (with_reducible refine Kd.C_drew ?_))); (case side2 => exact (Kd.R_reads' HO_z15002.out).2.1); (case side3 => repeat (first | exact (Kd.R_reads' HO_z15003.out).2.2 | (with_reducible refine Kd.C_alloc ?_ _) | (with_reducible refine Kd.C_drewN ?_ _) | (with_reducible refine Kd.C_drew ?_))); (case side4 => exact (Kd.R_reads' HO_z15003.out).2.1); rintro e w115 ⟨rfl, hb⟩; have n0_ := am (Kd.R_below (pr HO_10) hb); have n1_ := am (Kd.R_below (pr HO_11) hb); have n2_ := am (Kd.R_below (pr HO_z15002) hb); have n3_ := am (Kd.R_below (pr HO_z15003) hb); have n4_ := am (blk_below (pk BKz14) hb); have n5_ := am (blk_below (pk BKz16) hb); have n6_ := am (below_step (by repeat (first | (with_reducible first | exact HB.out | apply below_alloc | apply pw_below_drewN | apply below_drew1 | refine below_set ?_ GEz14.out | refine below_set ?_ GEz16.out) | exact HB.out)) hb); clear HO_10; clear HO_11; clear HO_z15002; clear HO_z15003; clear BKz14; clear BKz16; clear HB; have HO_10 := n0_; have HO_11 := n1_; have HO_z15002 := n2_; have HO_z15003 := n3_; have BKz14 := n4_; have BKz16 := n5_; have HB := n6_; clear n0_ n1_ n2_ n3_ n4_ n5_ n6_; (try clear hb); (try clear hb2); (try clear hk); (try clear hi)))
   go_meet
   case rel => exact ⟨_, (!tz52), (by first | rfl | (simp; done) | (simp [*]; done)), H', ⟨by have := HK1.out; have := HJ14.out; have := HJ23.out; first | omega | exact Nat.le_refl _⟩, ⟨by (with_reducible repeat (first | apply Kd.R_alloc | apply Kd.R_drewN | apply Kd.R_drew)); exact HO_10.out⟩, ⟨by (with_reducible repeat (first | apply Kd.R_alloc | apply Kd.R_drewN | apply Kd.R_drew)); exact HO_11.out⟩, ⟨by (with_reducible repeat (first | apply Kd.R_alloc | apply Kd.R_drewN | apply Kd.R_drew)); exact HO_z15002.out⟩, ⟨by (with_reducible repeat (first | apply Kd.R_alloc | apply Kd.R_drewN | apply Kd.R_drew)); exact HO_z15003.out⟩, ⟨by (with_reducible repeat (first | refine blk_drewN ?_ _ | refine blk_drew ?_ | refine blk_alloc ?_ _)); exact BKz14.out⟩, ⟨by (with_reducible repeat (first | refine blk_drewN ?_ _ | refine blk_drew ?_ | refine blk_alloc ?_ _)); exact BKz16.out⟩, ⟨by repeat (first | (with_reducible first | exact HB.out | apply below_alloc | apply pw_below_drewN | apply below_drew1 | refine below_set ?_ GEz14.out | refine below_set ?_ GEz16.out) | exact HB.out)⟩⟩
  clear HC108
  try clear c1
  try clear p2
  try clear c3
  try clear c4
  try clear c5
  try clear c8
  try clear c10
  try clear c11
  try clear c39
  try clear c40
  try clear c41
  try clear c43
  try clear c48
  try clear c51
  try clear c58
  try clear c83
  try clear c104
  try clear c109
  try clear c109b0
  try clear c109b1
  try clear c111
  try clear hcz105_0
  try clear hcz105_1
  try clear hcz105_2
  try clear hcz105_3
  try clear hcz105_4
  try clear hcz106_0
  try clear hcz106_1
  try clear hcz106_2
  try clear hcz112_0
  try clear hcz112_1
  try clear hcz112_2
  try clear hcz112_3
  try clear hcz112_4
  try clear hfz105_0
  try clear hfz105_1
  try clear hfz105_2
  try clear hfz105_3
  try clear hfz105_4
  try clear hfz106_0
  try clear hfz106_1
  try clear hfz106_2
  try clear hfz112_0
  try clear hfz112_1
  try clear hfz112_2
  try clear hfz112_3
  try clear hfz112_4
  try clear p2
  obtain ⟨kq, x112_107, rfl, HA, HJ107, HO_10, HO_11, HO_z15002, HO_z15003, BKz14, BKz16, HB⟩ := hcut
  cases kq with
  | zero => exact absurd HA.out (by simp [columbariumlaw08_IdealKeeps.j3])
  | succ kj107 => ?_
  have H := HA.out
  clear HA
  simp only [columbariumlaw08_IdealKeeps.j3] at H
  by_cases c116 : x112_107 = true
  ·subst c116
   have H1 : (none) = some r := by rw [if_pos rfl] at H; exact H
   clear H
   have H := H1
   clear H1
   exact absurd H (by simp)
  replace c116 := Bool.eq_false_iff.mpr c116
  subst c116
  have H1 : (columbariumlaw08_IdealKeeps.l1 kj107 l2 tz1 x10_1 x11_1 x12_1 x14_23 x15_23 0 xz15000_23 xz15001_23 xz15002_23 xz15003_23 xz15004_23) = some r := by rw [if_neg (show ¬ (false = true) by decide)] at H; exact H
  clear H
  have H := H1
  clear H1
  have H' := am H
  clear H
  go_wp2
  go_loopg [18] kj107 (fun kq v18 w' => ∃ (x18_5 : Int), v18 = .int .i64 x18_5 ∧ Aside0 (columbariumlaw08_IdealKeeps.l1 kq l2 tz1 x10_1 x11_1 x12_1 x14_23 x15_23 x18_5 xz15000_23 xz15001_23 xz15002_23 xz15003_23 xz15004_23 = some r) ∧ Aside0 (kq ≤ kj107) ∧ Aside0 (Kd.R Kd.string 9 w' w.heap.size (fun k_ => some k_ ≠ (u11 : Value).ownBlock) u10 x10_1) ∧ Aside0 (Kd.R Kd.string 9 w' w.heap.size (fun k_ => some k_ ≠ (u10 : Value).ownBlock) u11 x11_1) ∧ Aside0 (Kd.R k72 72 w' w.heap.size (fun _ => True) uz15002 xz15002_23) ∧ Aside0 (Kd.R k74 74 w' w.heap.size (fun _ => True) uz15003 xz15003_23) ∧ Aside0 (w'.heap[gbz14]? = some (.cells #[.string xz15000_23, .int .i64 xz15001_23, uz15002, uz15003, .bool xz15004_23] 50 (0, 0))) ∧ Aside0 (w'.heap[gbz16]? = some (.cells #[.int .i64 ((rd_T46 l2 x12_1).f0), .int .i64 ((rd_T46 l2 x12_1).f1), .int .i64 ((rd_T46 l2 x12_1).f2)] 46 (0, 0))) ∧ Aside0 (Below w.heap.size w w'))
  case atStart => exact ⟨(0), (by first | rfl | (simp; done) | (simp [*]; done)), H', ⟨Nat.le_refl _⟩, ⟨by (with_reducible repeat (first | apply Kd.R_alloc | apply Kd.R_drewN | apply Kd.R_drew)); exact HO_10.out⟩, ⟨by (with_reducible repeat (first | apply Kd.R_alloc | apply Kd.R_drewN | apply Kd.R_drew)); exact HO_11.out⟩, ⟨by (with_reducible repeat (first | apply Kd.R_alloc | apply Kd.R_drewN | apply Kd.R_drew)); exact HO_z15002.out⟩, ⟨by (with_reducible repeat (first | apply Kd.R_alloc | apply Kd.R_drewN | apply Kd.R_drew)); exact HO_z15003.out⟩, ⟨by (with_reducible repeat (first | refine blk_drewN ?_ _ | refine blk_drew ?_ | refine blk_alloc ?_ _)); exact BKz14.out⟩, ⟨by (with_reducible repeat (first | refine blk_drewN ?_ _ | refine blk_drew ?_ | refine blk_alloc ?_ _)); exact BKz16.out⟩, ⟨by repeat (first | (with_reducible first | exact HB.out | apply below_alloc | apply pw_below_drewN | apply below_drew1 | refine below_set ?_ GEz14.out | refine below_set ?_ GEz16.out) | exact HB.out)⟩⟩
  clear H'
  try clear c1
  try clear p2
  try clear c3
  try clear c4
  try clear c5
  try clear c8
  try clear c10
  try clear c11
  try clear c39
  try clear c40
  try clear c41
  try clear c43
  try clear c48
  try clear c51
  try clear c58
  try clear c83
  try clear c104
  try clear c109
  try clear c109b0
  try clear c109b1
  try clear c111
  try clear c116
  try clear hcz105_0
  try clear hcz105_1
  try clear hcz105_2
  try clear hcz105_3
  try clear hcz105_4
  try clear hcz106_0
  try clear hcz106_1
  try clear hcz106_2
  try clear hcz112_0
  try clear hcz112_1
  try clear hcz112_2
  try clear hcz112_3
  try clear hcz112_4
  try clear hfz105_0
  try clear hfz105_1
  try clear hfz105_2
  try clear hfz105_3
  try clear hfz105_4
  try clear hfz106_0
  try clear hfz106_1
  try clear hfz106_2
  try clear hfz112_0
  try clear hfz112_1
  try clear hfz112_2
  try clear hfz112_3
  try clear hfz112_4
  try clear p2
  obtain ⟨x18_5, rfl, HA, HK5, HO_10, HO_11, HO_z15002, HO_z15003, BKz14, BKz16, HB⟩ := hrel
  cases gk with
  | zero => exact absurd HA.out (by simp [columbariumlaw08_IdealKeeps.l1])
  | succ k5 => ?_
  have H := HA.out
  clear HA
  simp only [columbariumlaw08_IdealKeeps.l1] at H
  by_cases c117 : x18_5 < (x10_1.length : Int)
  rotate_left
  ·as_aux_lemma =>
    rw [if_neg c117] at H
    have c117b0 : decide (x18_5 < (x10_1.length : Int)) = false := decide_eq_false c117
    clear c117
    by_cases c177 : x10_1.length < 8796093022208
    rotate_left
    ·rw [if_neg c177] at H
     exact absurd H (by simp)
    rw [if_pos c177] at H
    have LMc177 := Aside0.mk c177
    clear c177
    obtain ⟨yz69, hyz69⟩ : ∃ y_ : List ByteArray, y_ = (x10_1 ++ [x14_23]) := ⟨_, rfl⟩
    replace H : (if x11_1.length < 8796093022208 then (columbariumlaw08_IdealKeeps.l0 k5 l2 tz1 yz69 (x11_1 ++ [x15_23]) (wrap64 (x12_1 + 1)) xz15000_23 xz15001_23 xz15002_23 xz15003_23 xz15004_23) else (none)) = some r := by first | (rw [hyz69]; with_reducible exact H) | (have H2_ := (Option.bind_some _ _).symm.trans H; rw [hyz69]; with_reducible exact H2_) | (have H2_ := (Option.bind_some _ _).symm.trans H; with_reducible exact H2_) | with_reducible exact H | (rw [hyz69]; exact H) | exact H
    have Nyz69 := am hyz69
    clear hyz69
    by_cases c178 : x11_1.length < 8796093022208
    rotate_left
    ·rw [if_neg c178] at H
     exact absurd H (by simp)
    rw [if_pos c178] at H
    have LMc178 := Aside0.mk c178
    clear c178
    obtain ⟨yz72, hyz72⟩ : ∃ y_ : List ByteArray, y_ = (x11_1 ++ [x15_23]) := ⟨_, rfl⟩
    replace H : (columbariumlaw08_IdealKeeps.l0 k5 l2 tz1 yz69 yz72 (wrap64 (x12_1 + 1)) xz15000_23 xz15001_23 xz15002_23 xz15003_23 xz15004_23) = some r := by first | (rw [hyz72]; with_reducible exact H) | (have H2_ := (Option.bind_some _ _).symm.trans H; rw [hyz72]; with_reducible exact H2_) | (have H2_ := (Option.bind_some _ _).symm.trans H; with_reducible exact H2_) | with_reducible exact H | (rw [hyz72]; exact H) | exact H
    have Nyz72 := am hyz72
    clear hyz72
    have H' := am H
    clear H
    obtain ⟨Ao179, co179, eo179⟩ := Kd.R_slice HO_10.out
    subst eo179
    go_wp2_with (first | ((with_reducible refine gate_builtin (b := .append) (xs := #[.tmp 180, .tmp 182]) rfl ?_); at_builtin; refine Kd.R_append Kd.string (w0 := w) w.heap.size rfl (.tmp 180) (.tmp 182) 58 9 (.string ⟨#[]⟩) 16 rfl Try.underlying58 info9 rfl (by decide) (by omega) (.slice Ao179 x10_1.length co179) x10_1 x14_23 [.string x14_23] (fun k_ => some k_ ≠ (u11 : Value).ownBlock) (fun _ => False) rfl rfl ?aP (fun _ hk => hk.elim) ?aF ?aO ?aB ?aS ?aL ?_; (case aP => exact rfl); (case aB => exact (by repeat (first | (with_reducible first | exact HB.out | apply below_alloc | apply pw_below_drewN | apply below_drew1 | refine below_set ?_ GEz14.out | refine below_set ?_ GEz16.out) | exact HB.out))); (case aF => exact (fun k_ hk => Kd.fresh' (Kd.R_lt (pr HO_11)) k_ hk)); (case aO => exact (pr HO_10)); (case aS => exact (below_size (by repeat (first | (with_reducible first | exact HB.out | apply below_alloc | apply pw_below_drewN | apply below_drew1 | refine below_set ?_ GEz14.out | refine below_set ?_ GEz16.out) | exact HB.out)))); (case aL => have := LMc177.out; omega); intro vz70 w180 ho hb hg hat; rw [← Nyz69.out] at ho; have n0_ := am (Kd.R_after (ok := (fun _ => True)) (pm HO_11 (fun _ hk => ⟨trivial, hk⟩)) hg hat); have n1_ := am (Kd.R_over' (pr HO_z15002) (Kd.R_typed (pr HO_10)) (by decide) hg); have n2_ := am (Kd.R_over' (pr HO_z15003) (Kd.R_typed (pr HO_10)) (by decide) hg); have n3_ := am (blk_grown (g := gbz14) (o := .cells #[.string xz15000_23, .int .i64 xz15001_23, uz15002, uz15003, .bool xz15004_23] 50 (0, 0)) (pk BKz14) hg (Kd.R_ne HO_10.out BKz14.out (by decide))); have n4_ := am (blk_grown (g := gbz16) (o := .cells #[.int .i64 ((rd_T46 l2 x12_1).f0), .int .i64 ((rd_T46 l2 x12_1).f1), .int .i64 ((rd_T46 l2 x12_1).f2)] 46 (0, 0)) (pk BKz16) hg (Kd.R_ne HO_10.out BKz16.out (by decide))); have n5_ := am (hb); have n6_ := am (ho); clear HO_11; clear HO_z15002; clear HO_z15003; clear BKz14; clear BKz16; clear HB; clear HO_10; have HO_11 := n0_; have HO_z15002 := n1_; have HO_z15003 := n2_; have BKz14 := n3_; have BKz16 := n4_; have HB := n5_; have HOz71 := n6_; clear n0_ n1_ n2_ n3_ n4_ n5_ n6_; clear ho hb hg hat) | ((with_reducible refine gate_builtin (b := .append) (xs := #[.tmp 184, .tmp 186]) rfl ?_); at_builtin; refine Kd.R_append Kd.string (w0 := w) w.heap.size rfl (.tmp 184) (.tmp 186) 58 9 (.string ⟨#[]⟩) 16 rfl Try.underlying58 info9 rfl (by decide) (by omega) u11 x11_1 x15_23 [.string x15_23] (fun k_ => some k_ ≠ (vz70 : Value).ownBlock) (fun _ => False) rfl rfl ?aP (fun _ hk => hk.elim) ?aF ?aO ?aB ?aS ?aL ?_; (case aP => exact rfl); (case aB => exact (by repeat (first | (with_reducible first | exact HB.out | apply below_alloc | apply pw_below_drewN | apply below_drew1 | refine below_set ?_ GEz14.out | refine below_set ?_ GEz16.out) | exact HB.out))); (case aF => exact (fun k_ hk => Kd.fresh' (Kd.R_lt (pr HOz71)) k_ hk)); (case aO => exact (pm HO_11 (fun _ hk => hk.2))); (case aS => exact (below_size (by repeat (first | (with_reducible first | exact HB.out | apply below_alloc | apply pw_below_drewN | apply below_drew1 | refine below_set ?_ GEz14.out | refine below_set ?_ GEz16.out) | exact HB.out)))); (case aL => have := LMc178.out; omega); intro vz73 w181 ho hb hg hat; rw [← Nyz72.out] at ho; have n0_ := am (Kd.R_over' (pr HO_z15002) (Kd.R_typed (pr HO_11)) (by decide) hg); have n1_ := am (Kd.R_over' (pr HO_z15003) (Kd.R_typed (pr HO_11)) (by decide) hg); have n2_ := am (blk_grown (g := gbz14) (o := .cells #[.string xz15000_23, .int .i64 xz15001_23, uz15002, uz15003, .bool xz15004_23] 50 (0, 0)) (pk BKz14) hg (Kd.R_ne HO_11.out BKz14.out (by decide))); have n3_ := am (blk_grown (g := gbz16) (o := .cells #[.int .i64 ((rd_T46 l2 x12_1).f0), .int .i64 ((rd_T46 l2 x12_1).f1), .int .i64 ((rd_T46 l2 x12_1).f2)] 46 (0, 0)) (pk BKz16) hg (Kd.R_ne HO_11.out BKz16.out (by decide))); have n4_ := am (Kd.R_after (ok := (fun _ => True)) (pm HOz71 (fun _ hk => ⟨trivial, hk⟩)) hg hat); have n5_ := am (hb); have n6_ := am (ho); clear HO_z15002; clear HO_z15003; clear BKz14; clear BKz16; clear HOz71; clear HB; clear HO_11; have HO_z15002 := n0_; have HO_z15003 := n1_; have BKz14 := n2_; have BKz16 := n3_; have HOz71 := n4_; have HB := n5_; have HOz74 := n6_; clear n0_ n1_ n2_ n3_ n4_ n5_ n6_; clear ho hb hg hat))
    go_roundg k5
    case measure => have := HK1.out; have := HJ14.out; have := HJ23.out; have := HJ107.out; have := HK5.out; omega
    case rel => exact ⟨(yz69), (yz72), (wrap64 (x12_1 + 1)), (xz15000_23), (xz15001_23), (xz15002_23), (xz15003_23), (xz15004_23), (uz15002), (uz15003), (by first | rfl | (simp; done) | (simp [*]; done)), H', ⟨by have := HK1.out; have := HJ14.out; have := HJ23.out; have := HJ107.out; have := HK5.out; omega⟩, ⟨by (with_reducible repeat (first | apply Kd.R_alloc | apply Kd.R_drewN | apply Kd.R_drew)); exact Kd.R_mono HOz71.out (fun _ hk => hk.2)⟩, ⟨by (with_reducible repeat (first | apply Kd.R_alloc | apply Kd.R_drewN | apply Kd.R_drew)); exact HOz74.out⟩, ⟨by (with_reducible repeat (first | apply Kd.R_alloc | apply Kd.R_drewN | apply Kd.R_drew)); exact HO_z15002.out⟩, ⟨by (with_reducible repeat (first | apply Kd.R_alloc | apply Kd.R_drewN | apply Kd.R_drew)); exact HO_z15003.out⟩, ⟨by (with_reducible repeat (first | refine blk_drewN ?_ _ | refine blk_drew ?_ | refine blk_alloc ?_ _)); exact BKz14.out⟩, ⟨by repeat (first | (with_reducible first | exact HB.out | apply below_alloc | apply pw_below_drewN | apply below_drew1 | refine below_set ?_ GEz14.out | refine below_set ?_ GEz16.out) | exact HB.out)⟩⟩
  rw [if_pos c117] at H
  have c117b0 : decide (x18_5 < (x10_1.length : Int)) = true := decide_eq_true c117
  clear c117
  by_cases c118 : 0 ≤ x18_5
  rotate_left
  ·rw [if_neg c118] at H
   exact absurd H (by simp)
  rw [if_pos c118] at H
  have c118b0 : decide (0 ≤ x18_5) = true := decide_eq_true c118
  clear c118
  by_cases c119 : 0 < ((rdOf ByteArray.empty x10_1 x18_5).size : Int)
  rotate_left
  ·rw [if_neg c119] at H
   exact absurd H (by simp)
  rw [if_pos c119] at H
  have c119b0 : decide (0 < ((rdOf ByteArray.empty x10_1 x18_5).size : Int)) = true := decide_eq_true c119
  have c119b1 : decide (0 < (rdOf ByteArray.empty x10_1 x18_5).size) = true := decide_eq_true (by omega)
  clear c119
  by_cases c121 : 0 < (x14_23.size : Int)
  rotate_left
  ·rw [if_neg c121] at H
   exact absurd H (by simp)
  rw [if_pos c121] at H
  have c121b0 : decide (0 < (x14_23.size : Int)) = true := decide_eq_true c121
  have c121b1 : decide (0 < x14_23.size) = true := decide_eq_true (by omega)
  clear c121
  by_cases c123 : (bt (rdOf ByteArray.empty x10_1 x18_5) 0) = (bt x14_23 0)
  rotate_left
  ·rw [if_neg c123] at H
   have c123b0 : ((bt (rdOf ByteArray.empty x10_1 x18_5) 0) == (bt x14_23 0)) = false := beq_eq_false_iff_ne.mpr c123
   have c123b1 : ((bt (rdOf ByteArray.empty x10_1 x18_5) 0) != (bt x14_23 0)) = true := bne_iff_ne.mpr c123
   by_cases c169 : (rdOf ByteArray.empty x10_1 x18_5).toList = x14_23.toList
   rotate_left
   ·rw [if_neg c169] at H
    have c169b0 : ((rdOf ByteArray.empty x10_1 x18_5).toList == x14_23.toList) = false := beq_eq_false_iff_ne.mpr c169
    have c169b1 : ((rdOf ByteArray.empty x10_1 x18_5).toList != x14_23.toList) = true := bne_iff_ne.mpr c169
    have H' := am H
    clear H
    obtain ⟨Ao175, co175, eo175⟩ := Kd.R_slice HO_10.out
    subst eo175
    try go_wp2
    have n0_ := am (Kd.R_drew HO_10.out)
    have n1_ := am (Kd.R_drew HO_11.out)
    have n2_ := am (Kd.R_drew HO_z15002.out)
    have n3_ := am (Kd.R_drew HO_z15003.out)
    have n4_ := am (blk_drew BKz14.out)
    have n5_ := am (blk_drew BKz16.out)
    have n6_ := am (below_drew1 HB.out)
    clear HO_10 HO_11 HO_z15002 HO_z15003 BKz14 BKz16 HB; have HO_10 := n0_; have HO_11 := n1_; have HO_z15002 := n2_; have HO_z15003 := n3_; have BKz14 := n4_; have BKz16 := n5_; have HB := n6_; clear n0_ n1_ n2_ n3_ n4_ n5_ n6_
    have pz53 : 0 ≤ (x18_5 : Int) := of_decide_eq_true (by first | (with_reducible assumption) | assumption)
    have qz53 : x18_5 < (x10_1.length : Int) := of_decide_eq_true (by first | (with_reducible assumption) | assumption)
    obtain ⟨adz53, ez53, hxz53_0⟩ := Kd.at_string (Kd.R_reads' HO_10.out).2.2 x18_5 pz53 qz53
    cases ez53
    replace pz53 := eq_true pz53
    replace qz53 := eq_true qz53
    have p120 : 0 ≤ (0 : Int) := (by omega)
    have q120 : 0 < (rdOf ByteArray.empty x10_1 x18_5).size := (by have : (0 : Int) < ((rdOf ByteArray.empty x10_1 x18_5).size : Int) := of_decide_eq_true (by first | (with_reducible assumption) | assumption); omega)
    have hx120 : ∀ h : 0 < (rdOf ByteArray.empty x10_1 x18_5).size, (((rdOf ByteArray.empty x10_1 x18_5)[0]'h).toNat : Int) = bt (rdOf ByteArray.empty x10_1 x18_5) 0 := bt_at (rdOf ByteArray.empty x10_1 x18_5) 0
    clear p120
    have qi120 : (0 < ((rdOf ByteArray.empty x10_1 x18_5).size : Int)) = True := eq_true (of_decide_eq_true (by first | (with_reducible assumption) | assumption))
    replace q120 := eq_true q120
    have p122 : 0 ≤ (0 : Int) := (by omega)
    have q122 : 0 < x14_23.size := (by have : (0 : Int) < (x14_23.size : Int) := of_decide_eq_true (by first | (with_reducible assumption) | assumption); omega)
    have hx122 : ∀ h : 0 < x14_23.size, ((x14_23[0]'h).toNat : Int) = bt x14_23 0 := bt_at x14_23 0
    clear p122
    have qi122 : (0 < (x14_23.size : Int)) = True := eq_true (of_decide_eq_true (by first | (with_reducible assumption) | assumption))
    replace q122 := eq_true q122
    refine start_ (n := 24) (S := fun w' => w'.cell? (adz53.add (x18_5).toNat) = some (.string (rdOf ByteArray.empty x10_1 x18_5))) (ds := []) #[false, false, false, false, false, false, false, false, false, false, false, false, false, false, false, false, false, false, false, false, false, false, false, false] (by kernel_rfl) rfl rfl (hxz53_0) (fun hHeld => ?_); refine with_tabW columbariumlaw08_IdealKeeps.tab25 columbariumlaw08_IdealKeeps.bits25 (fun HT_ HW_ => ?_)
    generalize wr.drew = w176 at HO_10 HO_11 HO_z15002 HO_z15003 BKz14 BKz16 HB hxz53_0 hHeld ⊢
    refine pu_ 0 (some 119) HT_ rfl rfl (by kernel_rfl) (fun _ _ _ h => h) (.inl ⟨by rfl, by intro w'; go_simp; with_reducible rfl⟩) (by simp only [Act.put, sa_, s0_, s1_, i64_w, i32_w]; rfl) ?_
    refine pu_ 1 (some 120) HT_ rfl rfl (by kernel_rfl) (fun _ _ _ h => h) (.inl ⟨by rfl, by intro w'; go_simp; with_reducible rfl⟩) (by simp only [Act.put, sa_, s0_, s1_, i64_w, i32_w]; rfl) ?_
    refine pu_ 2 (some 121) HT_ rfl rfl (by kernel_rfl) (fun _ _ _ h => h) (.inl ⟨by rfl, by intro w'; go_simp; with_reducible rfl⟩) (by simp only [Act.put, sa_, s0_, s1_, i64_w, i32_w]; rfl) ?_
    refine pu_ 5 (some 124) HT_ rfl rfl (by kernel_rfl) (fun _ _ _ h => h) (.inl ⟨by rfl, by intro w'; go_simp; with_reducible rfl⟩) (by simp only [Act.put, sa_, s0_, s1_, i64_w, i32_w]; rfl) ?_
    refine tk_ 3 (some 122) HT_ HW_ rfl rfl (by kernel_rfl) (fun _ _ _ h => h) (.inl ⟨by rfl, by intro w' s0; go_simp; with_reducible rfl⟩) hHeld (by simp only [Act.put, sa_, s0_, s1_, i64_w, i32_w]; rfl) ?_
    refine tk_ 4 (some 123) HT_ HW_ rfl rfl (by kernel_rfl) (fun _ _ _ h => h) (.inl ⟨by rfl, by intro w' s0; go_simp; with_reducible rfl⟩) hHeld (by simp only [Act.put, sa_, s0_, s1_, i64_w, i32_w]; rfl) ?_
    refine tk_ 6 (some 125) HT_ HW_ rfl rfl (by kernel_rfl) (fun _ _ _ h => h) (.inl ⟨by rfl, by intro w' s0; go_simp; with_reducible rfl⟩) hHeld (by simp only [Act.put, sa_, s0_, s1_, i64_w, i32_w]; rfl) ?_
    refine pu_ 7 (some 126) HT_ rfl rfl (by kernel_rfl) (fun _ _ _ h => h) (.inl ⟨by rfl, by intro w'; go_simp; with_reducible rfl⟩) (by simp only [Act.put, sa_, s0_, s1_, i64_w, i32_w]; rfl) ?_
    refine pu_ 8 (some 127) HT_ rfl rfl (by kernel_rfl) (fun _ _ _ h => h) (.inl ⟨by rfl, by intro w'; go_simp; with_reducible rfl⟩) (by simp only [Act.put, sa_, s0_, s1_, i64_w, i32_w]; rfl) ?_
    refine pure_ (i := 9) (N := some 128) (v := undef) (a' := ?_) #[true, true, true, true, true, true, true, true, true, true, false, false, false, false, false, false, false, false, false, false, false, false, false, false] rfl rfl (any_of HT_.out (by kernel_rfl)) (fun _ _ _ h => h) (Or.inr ⟨by rfl, rfl⟩) ?_ ?_
    rotate_left
    ·simp only [Act.put, List.setIfInBounds_toArray, List.set_cons_zero, List.set_cons_succ, i64_w, i32_w]
     rfl
    refine pure_ (i := 10) (N := some 129) (v := undef) (a' := ?_) #[true, true, true, true, true, true, true, true, true, true, true, false, false, false, false, false, false, false, false, false, false, false, false, false] rfl rfl (any_of HT_.out (by kernel_rfl)) (fun _ _ _ h => h) (Or.inr ⟨by rfl, rfl⟩) ?_ ?_
    rotate_left
    ·simp only [Act.put, List.setIfInBounds_toArray, List.set_cons_zero, List.set_cons_succ, i64_w, i32_w]
     rfl
    refine pure_ (i := 11) (N := some 130) (v := undef) (a' := ?_) #[true, true, true, true, true, true, true, true, true, true, true, true, false, false, false, false, false, false, false, false, false, false, false, false] rfl rfl (any_of HT_.out (by kernel_rfl)) (fun _ _ _ h => h) (Or.inr ⟨by rfl, rfl⟩) ?_ ?_
    rotate_left
    ·simp only [Act.put, List.setIfInBounds_toArray, List.set_cons_zero, List.set_cons_succ, i64_w, i32_w]
     rfl
    refine pure_ (i := 12) (N := some 131) (v := undef) (a' := ?_) #[true, true, true, true, true, true, true, true, true, true, true, true, true, false, false, false, false, false, false, false, false, false, false, false] rfl rfl (any_of HT_.out (by kernel_rfl)) (fun _ _ _ h => h) (Or.inr ⟨by rfl, rfl⟩) ?_ ?_
    rotate_left
    ·simp only [Act.put, List.setIfInBounds_toArray, List.set_cons_zero, List.set_cons_succ, i64_w, i32_w]
     rfl
    refine pure_ (i := 13) (N := some 132) (v := undef) (a' := ?_) #[true, true, true, true, true, true, true, true, true, true, true, true, true, true, false, false, false, false, false, false, false, false, false, false] rfl rfl (any_of HT_.out (by kernel_rfl)) (fun _ _ _ h => h) (Or.inr ⟨by rfl, rfl⟩) ?_ ?_
    rotate_left
    ·simp only [Act.put, List.setIfInBounds_toArray, List.set_cons_zero, List.set_cons_succ, i64_w, i32_w]
     rfl
    refine pure_ (i := 14) (N := some 133) (v := undef) (a' := ?_) #[true, true, true, true, true, true, true, true, true, true, true, true, true, true, true, false, false, false, false, false, false, false, false, false] rfl rfl (any_of HT_.out (by kernel_rfl)) (fun _ _ _ h => h) (Or.inr ⟨by rfl, rfl⟩) ?_ ?_
    rotate_left
    ·simp only [Act.put, List.setIfInBounds_toArray, List.set_cons_zero, List.set_cons_succ, i64_w, i32_w]
     rfl
    refine pure_ (i := 15) (N := some 134) (v := undef) (a' := ?_) #[true, true, true, true, true, true, true, true, true, true, true, true, true, true, true, true, false, false, false, false, false, false, false, false] rfl rfl (any_of HT_.out (by kernel_rfl)) (fun _ _ _ h => h) (Or.inr ⟨by rfl, rfl⟩) ?_ ?_
    rotate_left
    ·simp only [Act.put, List.setIfInBounds_toArray, List.set_cons_zero, List.set_cons_succ, i64_w, i32_w]
     rfl
    refine pure_ (i := 16) (N := some 135) (v := undef) (a' := ?_) #[true, true, true, true, true, true, true, true, true, true, true, true, true, true, true, true, true, false, false, false, false, false, false, false] rfl rfl (any_of HT_.out (by kernel_rfl)) (fun _ _ _ h => h) (Or.inr ⟨by rfl, rfl⟩) ?_ ?_
    rotate_left
    ·simp only [Act.put, List.setIfInBounds_toArray, List.set_cons_zero, List.set_cons_succ, i64_w, i32_w]
     rfl
    refine pure_ (i := 17) (N := some 136) (v := undef) (a' := ?_) #[true, true, true, true, true, true, true, true, true, true, true, true, true, true, true, true, true, true, false, false, false, false, false, false] rfl rfl (any_of HT_.out (by kernel_rfl)) (fun _ _ _ h => h) (Or.inr ⟨by rfl, rfl⟩) ?_ ?_
    rotate_left
    ·simp only [Act.put, List.setIfInBounds_toArray, List.set_cons_zero, List.set_cons_succ, i64_w, i32_w]
     rfl
    refine pure_ (i := 18) (N := some 137) (v := undef) (a' := ?_) #[true, true, true, true, true, true, true, true, true, true, true, true, true, true, true, true, true, true, true, false, false, false, false, false] rfl rfl (any_of HT_.out (by kernel_rfl)) (fun _ _ _ h => h) (Or.inr ⟨by rfl, rfl⟩) ?_ ?_
    rotate_left
    ·simp only [Act.put, List.setIfInBounds_toArray, List.set_cons_zero, List.set_cons_succ, i64_w, i32_w]
     rfl
    refine pure_ (i := 19) (N := some 138) (v := undef) (a' := ?_) #[true, true, true, true, true, true, true, true, true, true, true, true, true, true, true, true, true, true, true, true, false, false, false, false] rfl rfl (any_of HT_.out (by kernel_rfl)) (fun _ _ _ h => h) (Or.inr ⟨by rfl, rfl⟩) ?_ ?_
    rotate_left
    ·simp only [Act.put, List.setIfInBounds_toArray, List.set_cons_zero, List.set_cons_succ, i64_w, i32_w]
     rfl
    refine pure_ (i := 20) (N := some 139) (v := undef) (a' := ?_) #[true, true, true, true, true, true, true, true, true, true, true, true, true, true, true, true, true, true, true, true, true, false, false, false] rfl rfl (any_of HT_.out (by kernel_rfl)) (fun _ _ _ h => h) (Or.inr ⟨by rfl, rfl⟩) ?_ ?_
    rotate_left
    ·simp only [Act.put, List.setIfInBounds_toArray, List.set_cons_zero, List.set_cons_succ, i64_w, i32_w]
     rfl
    refine pure_ (i := 21) (N := some 140) (v := undef) (a' := ?_) #[true, true, true, true, true, true, true, true, true, true, true, true, true, true, true, true, true, true, true, true, true, true, false, false] rfl rfl (any_of HT_.out (by kernel_rfl)) (fun _ _ _ h => h) (Or.inr ⟨by rfl, rfl⟩) ?_ ?_
    rotate_left
    ·simp only [Act.put, List.setIfInBounds_toArray, List.set_cons_zero, List.set_cons_succ, i64_w, i32_w]
     rfl
    refine pu_ 22 (some 141) HT_ rfl rfl (by kernel_rfl) (fun _ _ _ h => h) (.inl ⟨by rfl, by intro w'; go_simp; with_reducible rfl⟩) (by simp only [Act.put, sa_, s0_, s1_, i64_w, i32_w]; rfl) ?_
    refine pu_ 23 (some 19) HT_ rfl rfl (by kernel_rfl) (fun _ _ _ h => h) (.inl ⟨by rfl, by intro w'; go_simp; with_reducible rfl⟩) (by simp only [Act.put, sa_, s0_, s1_, i64_w, i32_w]; rfl) ?_
    refine done_ (done_of HT_.out (by kernel_rfl)) ?_
    have pz65 : 0 ≤ (x18_5 : Int) := of_decide_eq_true (by first | (with_reducible assumption) | assumption)
    have qz65 : x18_5 < (x10_1.length : Int) := of_decide_eq_true (by first | (with_reducible assumption) | assumption)
    obtain ⟨adz65, ez65, hxz65_0⟩ := Kd.at_string (Kd.R_reads' HO_10.out).2.2 x18_5 pz65 qz65
    obtain rfl : adz53 = adz65 := (by injection ez65)
    replace pz65 := eq_true pz65
    replace qz65 := eq_true qz65
    have pz68 : 0 ≤ (x18_5 : Int) := of_decide_eq_true (by first | (with_reducible assumption) | assumption)
    have qz68 : x18_5 < (x10_1.length : Int) := of_decide_eq_true (by first | (with_reducible assumption) | assumption)
    obtain ⟨adz68, ez68, hxz68_0⟩ := Kd.at_string (Kd.R_reads' HO_10.out).2.2 x18_5 pz68 qz68
    obtain rfl : adz53 = adz68 := (by injection ez68)
    replace pz68 := eq_true pz68
    replace qz68 := eq_true qz68
    try go_wp2
    go_roundg k5
    case measure => have := HK1.out; have := HJ14.out; have := HJ23.out; have := HJ107.out; have := HK5.out; omega
    case rel => exact ⟨(wrap64 (x18_5 + 1)), (by first | rfl | (simp; done) | (simp [*]; done)), H', ⟨by have := HK1.out; have := HJ14.out; have := HJ23.out; have := HJ107.out; have := HK5.out; omega⟩, ⟨by (with_reducible repeat (first | apply Kd.R_alloc | apply Kd.R_drewN | apply Kd.R_drew)); exact HO_10.out⟩, ⟨by (with_reducible repeat (first | apply Kd.R_alloc | apply Kd.R_drewN | apply Kd.R_drew)); exact HO_11.out⟩, ⟨by (with_reducible repeat (first | apply Kd.R_alloc | apply Kd.R_drewN | apply Kd.R_drew)); exact HO_z15002.out⟩, ⟨by (with_reducible repeat (first | apply Kd.R_alloc | apply Kd.R_drewN | apply Kd.R_drew)); exact HO_z15003.out⟩, ⟨by (with_reducible repeat (first | refine blk_drewN ?_ _ | refine blk_drew ?_ | refine blk_alloc ?_ _)); exact BKz14.out⟩, ⟨by (with_reducible repeat (first | refine blk_drewN ?_ _ | refine blk_drew ?_ | refine blk_alloc ?_ _)); exact BKz16.out⟩, ⟨by repeat (first | (with_reducible first | exact HB.out | apply below_alloc | apply pw_below_drewN | apply below_drew1 | refine below_set ?_ GEz14.out | refine below_set ?_ GEz16.out) | exact HB.out)⟩⟩
   as_aux_lemma =>
    rw [if_pos c169] at H
    have c169b0 : ((rdOf ByteArray.empty x10_1 x18_5).toList == x14_23.toList) = true := beq_iff_eq.mpr c169
    have c169b1 : ((rdOf ByteArray.empty x10_1 x18_5).toList != x14_23.toList) = false := bne_eq_false_iff_eq.mpr c169
    clear c169
    by_cases c170 : x18_5 < (x11_1.length : Int)
    rotate_left
    ·rw [if_neg c170] at H
     exact absurd H (by simp)
    rw [if_pos c170] at H
    have c170b0 : decide (x18_5 < (x11_1.length : Int)) = true := decide_eq_true c170
    clear c170
    by_cases c171 : (rdOf ByteArray.empty x11_1 x18_5).toList = x15_23.toList
    rotate_left
    ·rw [if_neg c171] at H
     exact absurd H (by simp)
    rw [if_pos c171] at H
    have c171b0 : ((rdOf ByteArray.empty x11_1 x18_5).toList == x15_23.toList) = true := beq_iff_eq.mpr c171
    have c171b1 : ((rdOf ByteArray.empty x11_1 x18_5).toList != x15_23.toList) = false := bne_eq_false_iff_eq.mpr c171
    clear c171
    have H' := am H
    clear H
    obtain ⟨Ao172, co172, eo172⟩ := Kd.R_slice HO_10.out
    subst eo172
    try go_wp2
    have n0_ := am (Kd.R_drew HO_10.out)
    have n1_ := am (Kd.R_drew HO_11.out)
    have n2_ := am (Kd.R_drew HO_z15002.out)
    have n3_ := am (Kd.R_drew HO_z15003.out)
    have n4_ := am (blk_drew BKz14.out)
    have n5_ := am (blk_drew BKz16.out)
    have n6_ := am (below_drew1 HB.out)
    clear HO_10 HO_11 HO_z15002 HO_z15003 BKz14 BKz16 HB; have HO_10 := n0_; have HO_11 := n1_; have HO_z15002 := n2_; have HO_z15003 := n3_; have BKz14 := n4_; have BKz16 := n5_; have HB := n6_; clear n0_ n1_ n2_ n3_ n4_ n5_ n6_
    have pz53 : 0 ≤ (x18_5 : Int) := of_decide_eq_true (by first | (with_reducible assumption) | assumption)
    have qz53 : x18_5 < (x10_1.length : Int) := of_decide_eq_true (by first | (with_reducible assumption) | assumption)
    obtain ⟨adz53, ez53, hxz53_0⟩ := Kd.at_string (Kd.R_reads' HO_10.out).2.2 x18_5 pz53 qz53
    cases ez53
    replace pz53 := eq_true pz53
    replace qz53 := eq_true qz53
    have p120 : 0 ≤ (0 : Int) := (by omega)
    have q120 : 0 < (rdOf ByteArray.empty x10_1 x18_5).size := (by have : (0 : Int) < ((rdOf ByteArray.empty x10_1 x18_5).size : Int) := of_decide_eq_true (by first | (with_reducible assumption) | assumption); omega)
    have hx120 : ∀ h : 0 < (rdOf ByteArray.empty x10_1 x18_5).size, (((rdOf ByteArray.empty x10_1 x18_5)[0]'h).toNat : Int) = bt (rdOf ByteArray.empty x10_1 x18_5) 0 := bt_at (rdOf ByteArray.empty x10_1 x18_5) 0
    clear p120
    have qi120 : (0 < ((rdOf ByteArray.empty x10_1 x18_5).size : Int)) = True := eq_true (of_decide_eq_true (by first | (with_reducible assumption) | assumption))
    replace q120 := eq_true q120
    have p122 : 0 ≤ (0 : Int) := (by omega)
    have q122 : 0 < x14_23.size := (by have : (0 : Int) < (x14_23.size : Int) := of_decide_eq_true (by first | (with_reducible assumption) | assumption); omega)
    have hx122 : ∀ h : 0 < x14_23.size, ((x14_23[0]'h).toNat : Int) = bt x14_23 0 := bt_at x14_23 0
    clear p122
    have qi122 : (0 < (x14_23.size : Int)) = True := eq_true (of_decide_eq_true (by first | (with_reducible assumption) | assumption))
    replace q122 := eq_true q122
    refine start_ (n := 24) (S := fun w' => w'.cell? (adz53.add (x18_5).toNat) = some (.string (rdOf ByteArray.empty x10_1 x18_5))) (ds := []) #[false, false, false, false, false, false, false, false, false, false, false, false, false, false, false, false, false, false, false, false, false, false, false, false] (by kernel_rfl) rfl rfl (hxz53_0) (fun hHeld => ?_); refine with_tabW columbariumlaw08_IdealKeeps.tab25 columbariumlaw08_IdealKeeps.bits25 (fun HT_ HW_ => ?_)
    generalize wr.drew = w173 at HO_10 HO_11 HO_z15002 HO_z15003 BKz14 BKz16 HB hxz53_0 hHeld ⊢
    refine pu_ 0 (some 119) HT_ rfl rfl (by kernel_rfl) (fun _ _ _ h => h) (.inl ⟨by rfl, by intro w'; go_simp; with_reducible rfl⟩) (by simp only [Act.put, sa_, s0_, s1_, i64_w, i32_w]; rfl) ?_
    refine pu_ 1 (some 120) HT_ rfl rfl (by kernel_rfl) (fun _ _ _ h => h) (.inl ⟨by rfl, by intro w'; go_simp; with_reducible rfl⟩) (by simp only [Act.put, sa_, s0_, s1_, i64_w, i32_w]; rfl) ?_
    refine pu_ 2 (some 121) HT_ rfl rfl (by kernel_rfl) (fun _ _ _ h => h) (.inl ⟨by rfl, by intro w'; go_simp; with_reducible rfl⟩) (by simp only [Act.put, sa_, s0_, s1_, i64_w, i32_w]; rfl) ?_
    refine pu_ 5 (some 124) HT_ rfl rfl (by kernel_rfl) (fun _ _ _ h => h) (.inl ⟨by rfl, by intro w'; go_simp; with_reducible rfl⟩) (by simp only [Act.put, sa_, s0_, s1_, i64_w, i32_w]; rfl) ?_
    refine tk_ 3 (some 122) HT_ HW_ rfl rfl (by kernel_rfl) (fun _ _ _ h => h) (.inl ⟨by rfl, by intro w' s0; go_simp; with_reducible rfl⟩) hHeld (by simp only [Act.put, sa_, s0_, s1_, i64_w, i32_w]; rfl) ?_
    refine tk_ 4 (some 123) HT_ HW_ rfl rfl (by kernel_rfl) (fun _ _ _ h => h) (.inl ⟨by rfl, by intro w' s0; go_simp; with_reducible rfl⟩) hHeld (by simp only [Act.put, sa_, s0_, s1_, i64_w, i32_w]; rfl) ?_
    refine tk_ 6 (some 125) HT_ HW_ rfl rfl (by kernel_rfl) (fun _ _ _ h => h) (.inl ⟨by rfl, by intro w' s0; go_simp; with_reducible rfl⟩) hHeld (by simp only [Act.put, sa_, s0_, s1_, i64_w, i32_w]; rfl) ?_
    refine pu_ 7 (some 126) HT_ rfl rfl (by kernel_rfl) (fun _ _ _ h => h) (.inl ⟨by rfl, by intro w'; go_simp; with_reducible rfl⟩) (by simp only [Act.put, sa_, s0_, s1_, i64_w, i32_w]; rfl) ?_
    refine pu_ 8 (some 127) HT_ rfl rfl (by kernel_rfl) (fun _ _ _ h => h) (.inl ⟨by rfl, by intro w'; go_simp; with_reducible rfl⟩) (by simp only [Act.put, sa_, s0_, s1_, i64_w, i32_w]; rfl) ?_
    refine pure_ (i := 9) (N := some 128) (v := undef) (a' := ?_) #[true, true, true, true, true, true, true, true, true, true, false, false, false, false, false, false, false, false, false, false, false, false, false, false] rfl rfl (any_of HT_.out (by kernel_rfl)) (fun _ _ _ h => h) (Or.inr ⟨by rfl, rfl⟩) ?_ ?_
    rotate_left
    ·simp only [Act.put, List.setIfInBounds_toArray, List.set_cons_zero, List.set_cons_succ, i64_w, i32_w]
     rfl
    refine pure_ (i := 10) (N := some 129) (v := undef) (a' := ?_) #[true, true, true, true, true, true, true, true, true, true, true, false, false, false, false, false, false, false, false, false, false, false, false, false] rfl rfl (any_of HT_.out (by kernel_rfl)) (fun _ _ _ h => h) (Or.inr ⟨by rfl, rfl⟩) ?_ ?_
    rotate_left
    ·simp only [Act.put, List.setIfInBounds_toArray, List.set_cons_zero, List.set_cons_succ, i64_w, i32_w]
     rfl
    refine pure_ (i := 11) (N := some 130) (v := undef) (a' := ?_) #[true, true, true, true, true, true, true, true, true, true, true, true, false, false, false, false, false, false, false, false, false, false, false, false] rfl rfl (any_of HT_.out (by kernel_rfl)) (fun _ _ _ h => h) (Or.inr ⟨by rfl, rfl⟩) ?_ ?_
    rotate_left
    ·simp only [Act.put, List.setIfInBounds_toArray, List.set_cons_zero, List.set_cons_succ, i64_w, i32_w]
     rfl
    refine pure_ (i := 12) (N := some 131) (v := undef) (a' := ?_) #[true, true, true, true, true, true, true, true, true, true, true, true, true, false, false, false, false, false, false, false, false, false, false, false] rfl rfl (any_of HT_.out (by kernel_rfl)) (fun _ _ _ h => h) (Or.inr ⟨by rfl, rfl⟩) ?_ ?_
    rotate_left
    ·simp only [Act.put, List.setIfInBounds_toArray, List.set_cons_zero, List.set_cons_succ, i64_w, i32_w]
     rfl
    refine pure_ (i := 13) (N := some 132) (v := undef) (a' := ?_) #[true, true, true, true, true, true, true, true, true, true, true, true, true, true, false, false, false, false, false, false, false, false, false, false] rfl rfl (any_of HT_.out (by kernel_rfl)) (fun _ _ _ h => h) (Or.inr ⟨by rfl, rfl⟩) ?_ ?_
    rotate_left
    ·simp only [Act.put, List.setIfInBounds_toArray, List.set_cons_zero, List.set_cons_succ, i64_w, i32_w]
     rfl
    refine pure_ (i := 14) (N := some 133) (v := undef) (a' := ?_) #[true, true, true, true, true, true, true, true, true, true, true, true, true, true, true, false, false, false, false, false, false, false, false, false] rfl rfl (any_of HT_.out (by kernel_rfl)) (fun _ _ _ h => h) (Or.inr ⟨by rfl, rfl⟩) ?_ ?_
    rotate_left
    ·simp only [Act.put, List.setIfInBounds_toArray, List.set_cons_zero, List.set_cons_succ, i64_w, i32_w]
     rfl
    refine pure_ (i := 15) (N := some 134) (v := undef) (a' := ?_) #[true, true, true, true, true, true, true, true, true, true, true, true, true, true, true, true, false, false, false, false, false, false, false, false] rfl rfl (any_of HT_.out (by kernel_rfl)) (fun _ _ _ h => h) (Or.inr ⟨by rfl, rfl⟩) ?_ ?_
    rotate_left
    ·simp only [Act.put, List.setIfInBounds_toArray, List.set_cons_zero, List.set_cons_succ, i64_w, i32_w]
     rfl
    refine pure_ (i := 16) (N := some 135) (v := undef) (a' := ?_) #[true, true, true, true, true, true, true, true, true, true, true, true, true, true, true, true, true, false, false, false, false, false, false, false] rfl rfl (any_of HT_.out (by kernel_rfl)) (fun _ _ _ h => h) (Or.inr ⟨by rfl, rfl⟩) ?_ ?_
    rotate_left
    ·simp only [Act.put, List.setIfInBounds_toArray, List.set_cons_zero, List.set_cons_succ, i64_w, i32_w]
     rfl
    refine pure_ (i := 17) (N := some 136) (v := undef) (a' := ?_) #[true, true, true, true, true, true, true, true, true, true, true, true, true, true, true, true, true, true, false, false, false, false, false, false] rfl rfl (any_of HT_.out (by kernel_rfl)) (fun _ _ _ h => h) (Or.inr ⟨by rfl, rfl⟩) ?_ ?_
    rotate_left
    ·simp only [Act.put, List.setIfInBounds_toArray, List.set_cons_zero, List.set_cons_succ, i64_w, i32_w]
     rfl
    refine pure_ (i := 18) (N := some 137) (v := undef) (a' := ?_) #[true, true, true, true, true, true, true, true, true, true, true, true, true, true, true, true, true, true, true, false, false, false, false, false] rfl rfl (any_of HT_.out (by kernel_rfl)) (fun _ _ _ h => h) (Or.inr ⟨by rfl, rfl⟩) ?_ ?_
    rotate_left
    ·simp only [Act.put, List.setIfInBounds_toArray, List.set_cons_zero, List.set_cons_succ, i64_w, i32_w]
     rfl
    refine pure_ (i := 19) (N := some 138) (v := undef) (a' := ?_) #[true, true, true, true, true, true, true, true, true, true, true, true, true, true, true, true, true, true, true, true, false, false, false, false] rfl rfl (any_of HT_.out (by kernel_rfl)) (fun _ _ _ h => h) (Or.inr ⟨by rfl, rfl⟩) ?_ ?_
    rotate_left
    ·simp only [Act.put, List.setIfInBounds_toArray, List.set_cons_zero, List.set_cons_succ, i64_w, i32_w]
     rfl
    refine pure_ (i := 20) (N := some 139) (v := undef) (a' := ?_) #[true, true, true, true, true, true, true, true, true, true, true, true, true, true, true, true, true, true, true, true, true, false, false, false] rfl rfl (any_of HT_.out (by kernel_rfl)) (fun _ _ _ h => h) (Or.inr ⟨by rfl, rfl⟩) ?_ ?_
    rotate_left
    ·simp only [Act.put, List.setIfInBounds_toArray, List.set_cons_zero, List.set_cons_succ, i64_w, i32_w]
     rfl
    refine pure_ (i := 21) (N := some 140) (v := undef) (a' := ?_) #[true, true, true, true, true, true, true, true, true, true, true, true, true, true, true, true, true, true, true, true, true, true, false, false] rfl rfl (any_of HT_.out (by kernel_rfl)) (fun _ _ _ h => h) (Or.inr ⟨by rfl, rfl⟩) ?_ ?_
    rotate_left
    ·simp only [Act.put, List.setIfInBounds_toArray, List.set_cons_zero, List.set_cons_succ, i64_w, i32_w]
     rfl
    refine pu_ 22 (some 141) HT_ rfl rfl (by kernel_rfl) (fun _ _ _ h => h) (.inl ⟨by rfl, by intro w'; go_simp; with_reducible rfl⟩) (by simp only [Act.put, sa_, s0_, s1_, i64_w, i32_w]; rfl) ?_
    refine pu_ 23 (some 19) HT_ rfl rfl (by kernel_rfl) (fun _ _ _ h => h) (.inl ⟨by rfl, by intro w'; go_simp; with_reducible rfl⟩) (by simp only [Act.put, sa_, s0_, s1_, i64_w, i32_w]; rfl) ?_
    refine done_ (done_of HT_.out (by kernel_rfl)) ?_
    have pz65 : 0 ≤ (x18_5 : Int) := of_decide_eq_true (by first | (with_reducible assumption) | assumption)
    have qz65 : x18_5 < (x10_1.length : Int) := of_decide_eq_true (by first | (with_reducible assumption) | assumption)
    obtain ⟨adz65, ez65, hxz65_0⟩ := Kd.at_string (Kd.R_reads' HO_10.out).2.2 x18_5 pz65 qz65
    obtain rfl : adz53 = adz65 := (by injection ez65)
    replace pz65 := eq_true pz65
    replace qz65 := eq_true qz65
    obtain ⟨Ao174, co174, eo174⟩ := Kd.R_slice HO_11.out
    subst eo174
    have pz66 : 0 ≤ (x18_5 : Int) := of_decide_eq_true (by first | (with_reducible assumption) | assumption)
    have qz66 : x18_5 < (x11_1.length : Int) := of_decide_eq_true (by first | (with_reducible assumption) | assumption)
    obtain ⟨adz66, ez66, hxz66_0⟩ := Kd.at_string (Kd.R_reads' HO_11.out).2.2 x18_5 pz66 qz66
    cases ez66
    replace pz66 := eq_true pz66
    replace qz66 := eq_true qz66
    have pz67 : 0 ≤ (x18_5 : Int) := of_decide_eq_true (by first | (with_reducible assumption) | assumption)
    have qz67 : x18_5 < (x10_1.length : Int) := of_decide_eq_true (by first | (with_reducible assumption) | assumption)
    obtain ⟨adz67, ez67, hxz67_0⟩ := Kd.at_string (Kd.R_reads' HO_10.out).2.2 x18_5 pz67 qz67
    obtain rfl : adz53 = adz67 := (by injection ez67)
    replace pz67 := eq_true pz67
    replace qz67 := eq_true qz67
    try go_wp2
    go_roundg k5
    case measure => have := HK1.out; have := HJ14.out; have := HJ23.out; have := HJ107.out; have := HK5.out; omega
    case rel => exact ⟨(wrap64 (x18_5 + 1)), (by first | rfl | (simp; done) | (simp [*]; done)), H', ⟨by have := HK1.out; have := HJ14.out; have := HJ23.out; have := HJ107.out; have := HK5.out; omega⟩, ⟨by (with_reducible repeat (first | apply Kd.R_alloc | apply Kd.R_drewN | apply Kd.R_drew)); exact HO_10.out⟩, ⟨by (with_reducible repeat (first | apply Kd.R_alloc | apply Kd.R_drewN | apply Kd.R_drew)); exact HO_11.out⟩, ⟨by (with_reducible repeat (first | apply Kd.R_alloc | apply Kd.R_drewN | apply Kd.R_drew)); exact HO_z15002.out⟩, ⟨by (with_reducible repeat (first | apply Kd.R_alloc | apply Kd.R_drewN | apply Kd.R_drew)); exact HO_z15003.out⟩, ⟨by (with_reducible repeat (first | refine blk_drewN ?_ _ | refine blk_drew ?_ | refine blk_alloc ?_ _)); exact BKz14.out⟩, ⟨by (with_reducible repeat (first | refine blk_drewN ?_ _ | refine blk_drew ?_ | refine blk_alloc ?_ _)); exact BKz16.out⟩, ⟨by repeat (first | (with_reducible first | exact HB.out | apply below_alloc | apply pw_below_drewN | apply below_drew1 | refine below_set ?_ GEz14.out | refine below_set ?_ GEz16.out) | exact HB.out)⟩⟩
  rw [if_pos c123] at H
  have c123b0 : ((bt (rdOf ByteArray.empty x10_1 x18_5) 0) == (bt x14_23 0)) = true := beq_iff_eq.mpr c123
  have c123b1 : ((bt (rdOf ByteArray.empty x10_1 x18_5) 0) != (bt x14_23 0)) = false := bne_eq_false_iff_eq.mpr c123
  clear c123
  by_cases c125 : (bt x14_23 0) = 102
  ·rw [if_pos c125] at H
   have c125b0 : ((bt x14_23 0) == 102) = true := beq_iff_eq.mpr c125
   have c125b1 : ((bt x14_23 0) != 102) = false := bne_eq_false_iff_eq.mpr c125
   clear c125
   by_cases c126 : (rdOf ByteArray.empty x10_1 x18_5).toList = x14_23.toList
   ·rw [if_pos c126] at H
    have c126b0 : ((rdOf ByteArray.empty x10_1 x18_5).toList == x14_23.toList) = true := beq_iff_eq.mpr c126
    have c126b1 : ((rdOf ByteArray.empty x10_1 x18_5).toList != x14_23.toList) = false := bne_eq_false_iff_eq.mpr c126
    clear c126
    by_cases c127 : x18_5 < (x11_1.length : Int)
    rotate_left
    ·rw [if_neg c127] at H
     exact absurd H (by simp)
    rw [if_pos c127] at H
    have c127b0 : decide (x18_5 < (x11_1.length : Int)) = true := decide_eq_true c127
    clear c127
    by_cases c128 : (rdOf ByteArray.empty x11_1 x18_5).toList = x15_23.toList
    rotate_left
    ·rw [if_neg c128] at H
     exact absurd H (by simp)
    rw [if_pos c128] at H
    have c128b0 : ((rdOf ByteArray.empty x11_1 x18_5).toList == x15_23.toList) = true := beq_iff_eq.mpr c128
    have c128b1 : ((rdOf ByteArray.empty x11_1 x18_5).toList != x15_23.toList) = false := bne_eq_false_iff_eq.mpr c128
    clear c128
    have H' := am H
    clear H
    obtain ⟨Ao129, co129, eo129⟩ := Kd.R_slice HO_10.out
    subst eo129
    try go_wp2
    have n0_ := am (Kd.R_drew HO_10.out)
    have n1_ := am (Kd.R_drew HO_11.out)
    have n2_ := am (Kd.R_drew HO_z15002.out)
    have n3_ := am (Kd.R_drew HO_z15003.out)
    have n4_ := am (blk_drew BKz14.out)
    have n5_ := am (blk_drew BKz16.out)
    have n6_ := am (below_drew1 HB.out)
    clear HO_10 HO_11 HO_z15002 HO_z15003 BKz14 BKz16 HB; have HO_10 := n0_; have HO_11 := n1_; have HO_z15002 := n2_; have HO_z15003 := n3_; have BKz14 := n4_; have BKz16 := n5_; have HB := n6_; clear n0_ n1_ n2_ n3_ n4_ n5_ n6_
    have pz53 : 0 ≤ (x18_5 : Int) := of_decide_eq_true (by first | (with_reducible assumption) | assumption)
    have qz53 : x18_5 < (x10_1.length : Int) := of_decide_eq_true (by first | (with_reducible assumption) | assumption)
    obtain ⟨adz53, ez53, hxz53_0⟩ := Kd.at_string (Kd.R_reads' HO_10.out).2.2 x18_5 pz53 qz53
    cases ez53
    replace pz53 := eq_true pz53
    replace qz53 := eq_true qz53
    have p120 : 0 ≤ (0 : Int) := (by omega)
    have q120 : 0 < (rdOf ByteArray.empty x10_1 x18_5).size := (by have : (0 : Int) < ((rdOf ByteArray.empty x10_1 x18_5).size : Int) := of_decide_eq_true (by first | (with_reducible assumption) | assumption); omega)
    have hx120 : ∀ h : 0 < (rdOf ByteArray.empty x10_1 x18_5).size, (((rdOf ByteArray.empty x10_1 x18_5)[0]'h).toNat : Int) = bt (rdOf ByteArray.empty x10_1 x18_5) 0 := bt_at (rdOf ByteArray.empty x10_1 x18_5) 0
    clear p120
    have qi120 : (0 < ((rdOf ByteArray.empty x10_1 x18_5).size : Int)) = True := eq_true (of_decide_eq_true (by first | (with_reducible assumption) | assumption))
    replace q120 := eq_true q120
    have p122 : 0 ≤ (0 : Int) := (by omega)
    have q122 : 0 < x14_23.size := (by have : (0 : Int) < (x14_23.size : Int) := of_decide_eq_true (by first | (with_reducible assumption) | assumption); omega)
    have hx122 : ∀ h : 0 < x14_23.size, ((x14_23[0]'h).toNat : Int) = bt x14_23 0 := bt_at x14_23 0
    clear p122
    have qi122 : (0 < (x14_23.size : Int)) = True := eq_true (of_decide_eq_true (by first | (with_reducible assumption) | assumption))
    replace q122 := eq_true q122
    have p124 : 0 ≤ (0 : Int) := (by omega)
    have q124 : 0 < x14_23.size := (by have : (0 : Int) < (x14_23.size : Int) := of_decide_eq_true (by first | (with_reducible assumption) | assumption); omega)
    have hx124 : ∀ h : 0 < x14_23.size, ((x14_23[0]'h).toNat : Int) = bt x14_23 0 := bt_at x14_23 0
    clear p124
    have qi124 : (0 < (x14_23.size : Int)) = True := eq_true (of_decide_eq_true (by first | (with_reducible assumption) | assumption))
    replace q124 := eq_true q124
    refine start_ (n := 24) (S := fun w' => w'.cell? (adz53.add (x18_5).toNat) = some (.string (rdOf ByteArray.empty x10_1 x18_5))) (ds := []) #[false, false, false, false, false, false, false, false, false, false, false, false, false, false, false, false, false, false, false, false, false, false, false, false] (by kernel_rfl) rfl rfl (hxz53_0) (fun hHeld => ?_); refine with_tabW columbariumlaw08_IdealKeeps.tab25 columbariumlaw08_IdealKeeps.bits25 (fun HT_ HW_ => ?_)
    generalize wr.drew = w130 at HO_10 HO_11 HO_z15002 HO_z15003 BKz14 BKz16 HB hxz53_0 hHeld ⊢
    refine pu_ 0 (some 119) HT_ rfl rfl (by kernel_rfl) (fun _ _ _ h => h) (.inl ⟨by rfl, by intro w'; go_simp; with_reducible rfl⟩) (by simp only [Act.put, sa_, s0_, s1_, i64_w, i32_w]; rfl) ?_
    refine pu_ 1 (some 120) HT_ rfl rfl (by kernel_rfl) (fun _ _ _ h => h) (.inl ⟨by rfl, by intro w'; go_simp; with_reducible rfl⟩) (by simp only [Act.put, sa_, s0_, s1_, i64_w, i32_w]; rfl) ?_
    refine pu_ 2 (some 121) HT_ rfl rfl (by kernel_rfl) (fun _ _ _ h => h) (.inl ⟨by rfl, by intro w'; go_simp; with_reducible rfl⟩) (by simp only [Act.put, sa_, s0_, s1_, i64_w, i32_w]; rfl) ?_
    refine pu_ 5 (some 124) HT_ rfl rfl (by kernel_rfl) (fun _ _ _ h => h) (.inl ⟨by rfl, by intro w'; go_simp; with_reducible rfl⟩) (by simp only [Act.put, sa_, s0_, s1_, i64_w, i32_w]; rfl) ?_
    refine tk_ 3 (some 122) HT_ HW_ rfl rfl (by kernel_rfl) (fun _ _ _ h => h) (.inl ⟨by rfl, by intro w' s0; go_simp; with_reducible rfl⟩) hHeld (by simp only [Act.put, sa_, s0_, s1_, i64_w, i32_w]; rfl) ?_
    refine tk_ 4 (some 123) HT_ HW_ rfl rfl (by kernel_rfl) (fun _ _ _ h => h) (.inl ⟨by rfl, by intro w' s0; go_simp; with_reducible rfl⟩) hHeld (by simp only [Act.put, sa_, s0_, s1_, i64_w, i32_w]; rfl) ?_
    refine tk_ 6 (some 125) HT_ HW_ rfl rfl (by kernel_rfl) (fun _ _ _ h => h) (.inl ⟨by rfl, by intro w' s0; go_simp; with_reducible rfl⟩) hHeld (by simp only [Act.put, sa_, s0_, s1_, i64_w, i32_w]; rfl) ?_
    refine pu_ 7 (some 126) HT_ rfl rfl (by kernel_rfl) (fun _ _ _ h => h) (.inl ⟨by rfl, by intro w'; go_simp; with_reducible rfl⟩) (by simp only [Act.put, sa_, s0_, s1_, i64_w, i32_w]; rfl) ?_
    refine pu_ 8 (some 127) HT_ rfl rfl (by kernel_rfl) (fun _ _ _ h => h) (.inl ⟨by rfl, by intro w'; go_simp; with_reducible rfl⟩) (by simp only [Act.put, sa_, s0_, s1_, i64_w, i32_w]; rfl) ?_
    refine pu_ 9 (some 128) HT_ rfl rfl (by kernel_rfl) (fun _ _ _ h => h) (.inl ⟨by rfl, by intro w'; go_simp; with_reducible rfl⟩) (by simp only [Act.put, sa_, s0_, s1_, i64_w, i32_w]; rfl) ?_
    refine tk_ 10 (some 129) HT_ HW_ rfl rfl (by kernel_rfl) (fun _ _ _ h => h) (.inl ⟨by rfl, by intro w' s0; go_simp; with_reducible rfl⟩) hHeld (by simp only [Act.put, sa_, s0_, s1_, i64_w, i32_w]; rfl) ?_
    refine pu_ 11 (some 130) HT_ rfl rfl (by kernel_rfl) (fun _ _ _ h => h) (.inl ⟨by rfl, by intro w'; go_simp; with_reducible rfl⟩) (by simp only [Act.put, sa_, s0_, s1_, i64_w, i32_w]; rfl) ?_
    refine pu_ 12 (some 131) HT_ rfl rfl (by kernel_rfl) (fun _ _ _ h => h) (.inl ⟨by rfl, by intro w'; go_simp; with_reducible rfl⟩) (by simp only [Act.put, sa_, s0_, s1_, i64_w, i32_w]; rfl) ?_
    refine pure_ (i := 13) (N := some 132) (v := undef) (a' := ?_) #[true, true, true, true, true, true, true, true, true, true, true, true, true, true, false, false, false, false, false, false, false, false, false, false] rfl rfl (any_of HT_.out (by kernel_rfl)) (fun _ _ _ h => h) (Or.inr ⟨by rfl, rfl⟩) ?_ ?_
    rotate_left
    ·simp only [Act.put, List.setIfInBounds_toArray, List.set_cons_zero, List.set_cons_succ, i64_w, i32_w]
     rfl
    refine pure_ (i := 14) (N := some 133) (v := undef) (a' := ?_) #[true, true, true, true, true, true, true, true, true, true, true, true, true, true, true, false, false, false, false, false, false, false, false, false] rfl rfl (any_of HT_.out (by kernel_rfl)) (fun _ _ _ h => h) (Or.inr ⟨by rfl, rfl⟩) ?_ ?_
    rotate_left
    ·simp only [Act.put, List.setIfInBounds_toArray, List.set_cons_zero, List.set_cons_succ, i64_w, i32_w]
     rfl
    refine pure_ (i := 15) (N := some 134) (v := undef) (a' := ?_) #[true, true, true, true, true, true, true, true, true, true, true, true, true, true, true, true, false, false, false, false, false, false, false, false] rfl rfl (any_of HT_.out (by kernel_rfl)) (fun _ _ _ h => h) (Or.inr ⟨by rfl, rfl⟩) ?_ ?_
    rotate_left
    ·simp only [Act.put, List.setIfInBounds_toArray, List.set_cons_zero, List.set_cons_succ, i64_w, i32_w]
     rfl
    refine pure_ (i := 16) (N := some 135) (v := undef) (a' := ?_) #[true, true, true, true, true, true, true, true, true, true, true, true, true, true, true, true, true, false, false, false, false, false, false, false] rfl rfl (any_of HT_.out (by kernel_rfl)) (fun _ _ _ h => h) (Or.inr ⟨by rfl, rfl⟩) ?_ ?_
    rotate_left
    ·simp only [Act.put, List.setIfInBounds_toArray, List.set_cons_zero, List.set_cons_succ, i64_w, i32_w]
     rfl
    refine pure_ (i := 17) (N := some 136) (v := undef) (a' := ?_) #[true, true, true, true, true, true, true, true, true, true, true, true, true, true, true, true, true, true, false, false, false, false, false, false] rfl rfl (any_of HT_.out (by kernel_rfl)) (fun _ _ _ h => h) (Or.inr ⟨by rfl, rfl⟩) ?_ ?_
    rotate_left
    ·simp only [Act.put, List.setIfInBounds_toArray, List.set_cons_zero, List.set_cons_succ, i64_w, i32_w]
     rfl
    refine pure_ (i := 18) (N := some 137) (v := undef) (a' := ?_) #[true, true, true, true, true, true, true, true, true, true, true, true, true, true, true, true, true, true, true, false, false, false, false, false] rfl rfl (any_of HT_.out (by kernel_rfl)) (fun _ _ _ h => h) (Or.inr ⟨by rfl, rfl⟩) ?_ ?_
    rotate_left
    ·simp only [Act.put, List.setIfInBounds_toArray, List.set_cons_zero, List.set_cons_succ, i64_w, i32_w]
     rfl
    refine pure_ (i := 19) (N := some 138) (v := undef) (a' := ?_) #[true, true, true, true, true, true, true, true, true, true, true, true, true, true, true, true, true, true, true, true, false, false, false, false] rfl rfl (any_of HT_.out (by kernel_rfl)) (fun _ _ _ h => h) (Or.inr ⟨by rfl, rfl⟩) ?_ ?_
    rotate_left
    ·simp only [Act.put, List.setIfInBounds_toArray, List.set_cons_zero, List.set_cons_succ, i64_w, i32_w]
     rfl
    refine pure_ (i := 20) (N := some 139) (v := undef) (a' := ?_) #[true, true, true, true, true, true, true, true, true, true, true, true, true, true, true, true, true, true, true, true, true, false, false, false] rfl rfl (any_of HT_.out (by kernel_rfl)) (fun _ _ _ h => h) (Or.inr ⟨by rfl, rfl⟩) ?_ ?_
    rotate_left
    ·simp only [Act.put, List.setIfInBounds_toArray, List.set_cons_zero, List.set_cons_succ, i64_w, i32_w]
     rfl
    refine pu_ 21 (some 140) HT_ rfl rfl (by kernel_rfl) (fun _ _ _ h => h) (.inl ⟨by rfl, by intro w'; go_simp; with_reducible rfl⟩) (by simp only [Act.put, sa_, s0_, s1_, i64_w, i32_w]; rfl) ?_
    refine pu_ 22 (some 141) HT_ rfl rfl (by kernel_rfl) (fun _ _ _ h => h) (.inl ⟨by rfl, by intro w'; go_simp; with_reducible rfl⟩) (by simp only [Act.put, sa_, s0_, s1_, i64_w, i32_w]; rfl) ?_
    refine pu_ 23 (some 19) HT_ rfl rfl (by kernel_rfl) (fun _ _ _ h => h) (.inl ⟨by rfl, by intro w'; go_simp; with_reducible rfl⟩) (by simp only [Act.put, sa_, s0_, s1_, i64_w, i32_w]; rfl) ?_
    refine done_ (done_of HT_.out (by kernel_rfl)) ?_
    have pz54 : 0 ≤ (x18_5 : Int) := of_decide_eq_true (by first | (with_reducible assumption) | assumption)
    have qz54 : x18_5 < (x10_1.length : Int) := of_decide_eq_true (by first | (with_reducible assumption) | assumption)
    obtain ⟨adz54, ez54, hxz54_0⟩ := Kd.at_string (Kd.R_reads' HO_10.out).2.2 x18_5 pz54 qz54
    obtain rfl : adz53 = adz54 := (by injection ez54)
    replace pz54 := eq_true pz54
    replace qz54 := eq_true qz54
    obtain ⟨Ao131, co131, eo131⟩ := Kd.R_slice HO_11.out
    subst eo131
    have pz55 : 0 ≤ (x18_5 : Int) := of_decide_eq_true (by first | (with_reducible assumption) | assumption)
    have qz55 : x18_5 < (x11_1.length : Int) := of_decide_eq_true (by first | (with_reducible assumption) | assumption)
    obtain ⟨adz55, ez55, hxz55_0⟩ := Kd.at_string (Kd.R_reads' HO_11.out).2.2 x18_5 pz55 qz55
    cases ez55
    replace pz55 := eq_true pz55
    replace qz55 := eq_true qz55
    have pz56 : 0 ≤ (x18_5 : Int) := of_decide_eq_true (by first | (with_reducible assumption) | assumption)
    have qz56 : x18_5 < (x10_1.length : Int) := of_decide_eq_true (by first | (with_reducible assumption) | assumption)
    obtain ⟨adz56, ez56, hxz56_0⟩ := Kd.at_string (Kd.R_reads' HO_10.out).2.2 x18_5 pz56 qz56
    obtain rfl : adz53 = adz56 := (by injection ez56)
    replace pz56 := eq_true pz56
    replace qz56 := eq_true qz56
    try go_wp2
    go_roundg k5
    case measure => have := HK1.out; have := HJ14.out; have := HJ23.out; have := HJ107.out; have := HK5.out; omega
    case rel => exact ⟨(wrap64 (x18_5 + 1)), (by first | rfl | (simp; done) | (simp [*]; done)), H', ⟨by have := HK1.out; have := HJ14.out; have := HJ23.out; have := HJ107.out; have := HK5.out; omega⟩, ⟨by (with_reducible repeat (first | apply Kd.R_alloc | apply Kd.R_drewN | apply Kd.R_drew)); exact HO_10.out⟩, ⟨by (with_reducible repeat (first | apply Kd.R_alloc | apply Kd.R_drewN | apply Kd.R_drew)); exact HO_11.out⟩, ⟨by (with_reducible repeat (first | apply Kd.R_alloc | apply Kd.R_drewN | apply Kd.R_drew)); exact HO_z15002.out⟩, ⟨by (with_reducible repeat (first | apply Kd.R_alloc | apply Kd.R_drewN | apply Kd.R_drew)); exact HO_z15003.out⟩, ⟨by (with_reducible repeat (first | refine blk_drewN ?_ _ | refine blk_drew ?_ | refine blk_alloc ?_ _)); exact BKz14.out⟩, ⟨by (with_reducible repeat (first | refine blk_drewN ?_ _ | refine blk_drew ?_ | refine blk_alloc ?_ _)); exact BKz16.out⟩, ⟨by repeat (first | (with_reducible first | exact HB.out | apply below_alloc | apply pw_below_drewN | apply below_drew1 | refine below_set ?_ GEz14.out | refine below_set ?_ GEz16.out) | exact HB.out)⟩⟩
   as_aux_lemma =>
    rw [if_neg c126] at H
    have c126b0 : ((rdOf ByteArray.empty x10_1 x18_5).toList == x14_23.toList) = false := beq_eq_false_iff_ne.mpr c126
    have c126b1 : ((rdOf ByteArray.empty x10_1 x18_5).toList != x14_23.toList) = true := bne_iff_ne.mpr c126
    by_cases c132 : x18_5 < (x11_1.length : Int)
    rotate_left
    ·rw [if_neg c132] at H
     exact absurd H (by simp)
    rw [if_pos c132] at H
    have c132b0 : decide (x18_5 < (x11_1.length : Int)) = true := decide_eq_true c132
    clear c132
    by_cases c133 : (rdOf ByteArray.empty x11_1 x18_5).toList = x15_23.toList
    rotate_left
    ·rw [if_neg c133] at H
     have c133b0 : ((rdOf ByteArray.empty x11_1 x18_5).toList == x15_23.toList) = false := beq_eq_false_iff_ne.mpr c133
     have c133b1 : ((rdOf ByteArray.empty x11_1 x18_5).toList != x15_23.toList) = true := bne_iff_ne.mpr c133
     have H' := am H
     clear H
     obtain ⟨Ao140, co140, eo140⟩ := Kd.R_slice HO_10.out
     subst eo140
     try go_wp2
     have n0_ := am (Kd.R_drew HO_10.out)
     have n1_ := am (Kd.R_drew HO_11.out)
     have n2_ := am (Kd.R_drew HO_z15002.out)
     have n3_ := am (Kd.R_drew HO_z15003.out)
     have n4_ := am (blk_drew BKz14.out)
     have n5_ := am (blk_drew BKz16.out)
     have n6_ := am (below_drew1 HB.out)
     clear HO_10 HO_11 HO_z15002 HO_z15003 BKz14 BKz16 HB; have HO_10 := n0_; have HO_11 := n1_; have HO_z15002 := n2_; have HO_z15003 := n3_; have BKz14 := n4_; have BKz16 := n5_; have HB := n6_; clear n0_ n1_ n2_ n3_ n4_ n5_ n6_
     have pz53 : 0 ≤ (x18_5 : Int) := of_decide_eq_true (by first | (with_reducible assumption) | assumption)
     have qz53 : x18_5 < (x10_1.length : Int) := of_decide_eq_true (by first | (with_reducible assumption) | assumption)
     obtain ⟨adz53, ez53, hxz53_0⟩ := Kd.at_string (Kd.R_reads' HO_10.out).2.2 x18_5 pz53 qz53
     cases ez53
     replace pz53 := eq_true pz53
     replace qz53 := eq_true qz53
     have p120 : 0 ≤ (0 : Int) := (by omega)
     have q120 : 0 < (rdOf ByteArray.empty x10_1 x18_5).size := (by have : (0 : Int) < ((rdOf ByteArray.empty x10_1 x18_5).size : Int) := of_decide_eq_true (by first | (with_reducible assumption) | assumption); omega)
     have hx120 : ∀ h : 0 < (rdOf ByteArray.empty x10_1 x18_5).size, (((rdOf ByteArray.empty x10_1 x18_5)[0]'h).toNat : Int) = bt (rdOf ByteArray.empty x10_1 x18_5) 0 := bt_at (rdOf ByteArray.empty x10_1 x18_5) 0
     clear p120
     have qi120 : (0 < ((rdOf ByteArray.empty x10_1 x18_5).size : Int)) = True := eq_true (of_decide_eq_true (by first | (with_reducible assumption) | assumption))
     replace q120 := eq_true q120
     have p122 : 0 ≤ (0 : Int) := (by omega)
     have q122 : 0 < x14_23.size := (by have : (0 : Int) < (x14_23.size : Int) := of_decide_eq_true (by first | (with_reducible assumption) | assumption); omega)
     have hx122 : ∀ h : 0 < x14_23.size, ((x14_23[0]'h).toNat : Int) = bt x14_23 0 := bt_at x14_23 0
     clear p122
     have qi122 : (0 < (x14_23.size : Int)) = True := eq_true (of_decide_eq_true (by first | (with_reducible assumption) | assumption))
     replace q122 := eq_true q122
     have p124 : 0 ≤ (0 : Int) := (by omega)
     have q124 : 0 < x14_23.size := (by have : (0 : Int) < (x14_23.size : Int) := of_decide_eq_true (by first | (with_reducible assumption) | assumption); omega)
     have hx124 : ∀ h : 0 < x14_23.size, ((x14_23[0]'h).toNat : Int) = bt x14_23 0 := bt_at x14_23 0
     clear p124
     have qi124 : (0 < (x14_23.size : Int)) = True := eq_true (of_decide_eq_true (by first | (with_reducible assumption) | assumption))
     replace q124 := eq_true q124
     refine start_ (n := 24) (S := fun w' => w'.cell? (adz53.add (x18_5).toNat) = some (.string (rdOf ByteArray.empty x10_1 x18_5))) (ds := []) #[false, false, false, false, false, false, false, false, false, false, false, false, false, false, false, false, false, false, false, false, false, false, false, false] (by kernel_rfl) rfl rfl (hxz53_0) (fun hHeld => ?_); refine with_tabW columbariumlaw08_IdealKeeps.tab25 columbariumlaw08_IdealKeeps.bits25 (fun HT_ HW_ => ?_)
     generalize wr.drew = w141 at HO_10 HO_11 HO_z15002 HO_z15003 BKz14 BKz16 HB hxz53_0 hHeld ⊢
     refine pu_ 0 (some 119) HT_ rfl rfl (by kernel_rfl) (fun _ _ _ h => h) (.inl ⟨by rfl, by intro w'; go_simp; with_reducible rfl⟩) (by simp only [Act.put, sa_, s0_, s1_, i64_w, i32_w]; rfl) ?_
     refine pu_ 1 (some 120) HT_ rfl rfl (by kernel_rfl) (fun _ _ _ h => h) (.inl ⟨by rfl, by intro w'; go_simp; with_reducible rfl⟩) (by simp only [Act.put, sa_, s0_, s1_, i64_w, i32_w]; rfl) ?_
     refine pu_ 2 (some 121) HT_ rfl rfl (by kernel_rfl) (fun _ _ _ h => h) (.inl ⟨by rfl, by intro w'; go_simp; with_reducible rfl⟩) (by simp only [Act.put, sa_, s0_, s1_, i64_w, i32_w]; rfl) ?_
     refine pu_ 5 (some 124) HT_ rfl rfl (by kernel_rfl) (fun _ _ _ h => h) (.inl ⟨by rfl, by intro w'; go_simp; with_reducible rfl⟩) (by simp only [Act.put, sa_, s0_, s1_, i64_w, i32_w]; rfl) ?_
     refine tk_ 3 (some 122) HT_ HW_ rfl rfl (by kernel_rfl) (fun _ _ _ h => h) (.inl ⟨by rfl, by intro w' s0; go_simp; with_reducible rfl⟩) hHeld (by simp only [Act.put, sa_, s0_, s1_, i64_w, i32_w]; rfl) ?_
     refine tk_ 4 (some 123) HT_ HW_ rfl rfl (by kernel_rfl) (fun _ _ _ h => h) (.inl ⟨by rfl, by intro w' s0; go_simp; with_reducible rfl⟩) hHeld (by simp only [Act.put, sa_, s0_, s1_, i64_w, i32_w]; rfl) ?_
     refine tk_ 6 (some 125) HT_ HW_ rfl rfl (by kernel_rfl) (fun _ _ _ h => h) (.inl ⟨by rfl, by intro w' s0; go_simp; with_reducible rfl⟩) hHeld (by simp only [Act.put, sa_, s0_, s1_, i64_w, i32_w]; rfl) ?_
     refine pu_ 7 (some 126) HT_ rfl rfl (by kernel_rfl) (fun _ _ _ h => h) (.inl ⟨by rfl, by intro w'; go_simp; with_reducible rfl⟩) (by simp only [Act.put, sa_, s0_, s1_, i64_w, i32_w]; rfl) ?_
     refine pu_ 8 (some 127) HT_ rfl rfl (by kernel_rfl) (fun _ _ _ h => h) (.inl ⟨by rfl, by intro w'; go_simp; with_reducible rfl⟩) (by simp only [Act.put, sa_, s0_, s1_, i64_w, i32_w]; rfl) ?_
     refine pu_ 9 (some 128) HT_ rfl rfl (by kernel_rfl) (fun _ _ _ h => h) (.inl ⟨by rfl, by intro w'; go_simp; with_reducible rfl⟩) (by simp only [Act.put, sa_, s0_, s1_, i64_w, i32_w]; rfl) ?_
     refine tk_ 10 (some 129) HT_ HW_ rfl rfl (by kernel_rfl) (fun _ _ _ h => h) (.inl ⟨by rfl, by intro w' s0; go_simp; with_reducible rfl⟩) hHeld (by simp only [Act.put, sa_, s0_, s1_, i64_w, i32_w]; rfl) ?_
     refine pu_ 11 (some 130) HT_ rfl rfl (by kernel_rfl) (fun _ _ _ h => h) (.inl ⟨by rfl, by intro w'; go_simp; with_reducible rfl⟩) (by simp only [Act.put, sa_, s0_, s1_, i64_w, i32_w]; rfl) ?_
     refine pu_ 12 (some 131) HT_ rfl rfl (by kernel_rfl) (fun _ _ _ h => h) (.inl ⟨by rfl, by intro w'; go_simp; with_reducible rfl⟩) (by simp only [Act.put, sa_, s0_, s1_, i64_w, i32_w]; rfl) ?_
     refine pure_ (i := 13) (N := some 132) (v := undef) (a' := ?_) #[true, true, true, true, true, true, true, true, true, true, true, true, true, true, false, false, false, false, false, false, false, false, false, false] rfl rfl (any_of HT_.out (by kernel_rfl)) (fun _ _ _ h => h) (Or.inr ⟨by rfl, rfl⟩) ?_ ?_
     rotate_left
     ·simp only [Act.put, List.setIfInBounds_toArray, List.set_cons_zero, List.set_cons_succ, i64_w, i32_w]
      rfl
     refine pure_ (i := 14) (N := some 133) (v := undef) (a' := ?_) #[true, true, true, true, true, true, true, true, true, true, true, true, true, true, true, false, false, false, false, false, false, false, false, false] rfl rfl (any_of HT_.out (by kernel_rfl)) (fun _ _ _ h => h) (Or.inr ⟨by rfl, rfl⟩) ?_ ?_
     rotate_left
     ·simp only [Act.put, List.setIfInBounds_toArray, List.set_cons_zero, List.set_cons_succ, i64_w, i32_w]
      rfl
     refine pure_ (i := 15) (N := some 134) (v := undef) (a' := ?_) #[true, true, true, true, true, true, true, true, true, true, true, true, true, true, true, true, false, false, false, false, false, false, false, false] rfl rfl (any_of HT_.out (by kernel_rfl)) (fun _ _ _ h => h) (Or.inr ⟨by rfl, rfl⟩) ?_ ?_
     rotate_left
     ·simp only [Act.put, List.setIfInBounds_toArray, List.set_cons_zero, List.set_cons_succ, i64_w, i32_w]
      rfl
     refine pure_ (i := 16) (N := some 135) (v := undef) (a' := ?_) #[true, true, true, true, true, true, true, true, true, true, true, true, true, true, true, true, true, false, false, false, false, false, false, false] rfl rfl (any_of HT_.out (by kernel_rfl)) (fun _ _ _ h => h) (Or.inr ⟨by rfl, rfl⟩) ?_ ?_
     rotate_left
     ·simp only [Act.put, List.setIfInBounds_toArray, List.set_cons_zero, List.set_cons_succ, i64_w, i32_w]
      rfl
     refine pure_ (i := 17) (N := some 136) (v := undef) (a' := ?_) #[true, true, true, true, true, true, true, true, true, true, true, true, true, true, true, true, true, true, false, false, false, false, false, false] rfl rfl (any_of HT_.out (by kernel_rfl)) (fun _ _ _ h => h) (Or.inr ⟨by rfl, rfl⟩) ?_ ?_
     rotate_left
     ·simp only [Act.put, List.setIfInBounds_toArray, List.set_cons_zero, List.set_cons_succ, i64_w, i32_w]
      rfl
     refine pure_ (i := 18) (N := some 137) (v := undef) (a' := ?_) #[true, true, true, true, true, true, true, true, true, true, true, true, true, true, true, true, true, true, true, false, false, false, false, false] rfl rfl (any_of HT_.out (by kernel_rfl)) (fun _ _ _ h => h) (Or.inr ⟨by rfl, rfl⟩) ?_ ?_
     rotate_left
     ·simp only [Act.put, List.setIfInBounds_toArray, List.set_cons_zero, List.set_cons_succ, i64_w, i32_w]
      rfl
     refine pure_ (i := 19) (N := some 138) (v := undef) (a' := ?_) #[true, true, true, true, true, true, true, true, true, true, true, true, true, true, true, true, true, true, true, true, false, false, false, false] rfl rfl (any_of HT_.out (by kernel_rfl)) (fun _ _ _ h => h) (Or.inr ⟨by rfl, rfl⟩) ?_ ?_
     rotate_left
     ·simp only [Act.put, List.setIfInBounds_toArray, List.set_cons_zero, List.set_cons_succ, i64_w, i32_w]
      rfl
     refine pure_ (i := 20) (N := some 139) (v := undef) (a' := ?_) #[true, true, true, true, true, true, true, true, true, true, true, true, true, true, true, true, true, true, true, true, true, false, false, false] rfl rfl (any_of HT_.out (by kernel_rfl)) (fun _ _ _ h => h) (Or.inr ⟨by rfl, rfl⟩) ?_ ?_
     rotate_left
     ·simp only [Act.put, List.setIfInBounds_toArray, List.set_cons_zero, List.set_cons_succ, i64_w, i32_w]
      rfl
     refine pu_ 21 (some 140) HT_ rfl rfl (by kernel_rfl) (fun _ _ _ h => h) (.inl ⟨by rfl, by intro w'; go_simp; with_reducible rfl⟩) (by simp only [Act.put, sa_, s0_, s1_, i64_w, i32_w]; rfl) ?_
     refine pu_ 22 (some 141) HT_ rfl rfl (by kernel_rfl) (fun _ _ _ h => h) (.inl ⟨by rfl, by intro w'; go_simp; with_reducible rfl⟩) (by simp only [Act.put, sa_, s0_, s1_, i64_w, i32_w]; rfl) ?_
     refine pu_ 23 (some 19) HT_ rfl rfl (by kernel_rfl) (fun _ _ _ h => h) (.inl ⟨by rfl, by intro w'; go_simp; with_reducible rfl⟩) (by simp only [Act.put, sa_, s0_, s1_, i64_w, i32_w]; rfl) ?_
     refine done_ (done_of HT_.out (by kernel_rfl)) ?_
     have pz54 : 0 ≤ (x18_5 : Int) := of_decide_eq_true (by first | (with_reducible assumption) | assumption)
     have qz54 : x18_5 < (x10_1.length : Int) := of_decide_eq_true (by first | (with_reducible assumption) | assumption)
     obtain ⟨adz54, ez54, hxz54_0⟩ := Kd.at_string (Kd.R_reads' HO_10.out).2.2 x18_5 pz54 qz54
     obtain rfl : adz53 = adz54 := (by injection ez54)
     replace pz54 := eq_true pz54
     replace qz54 := eq_true qz54
     have pz57 : 0 ≤ (x18_5 : Int) := of_decide_eq_true (by first | (with_reducible assumption) | assumption)
     have qz57 : x18_5 < (x10_1.length : Int) := of_decide_eq_true (by first | (with_reducible assumption) | assumption)
     obtain ⟨adz57, ez57, hxz57_0⟩ := Kd.at_string (Kd.R_reads' HO_10.out).2.2 x18_5 pz57 qz57
     obtain rfl : adz53 = adz57 := (by injection ez57)
     replace pz57 := eq_true pz57
     replace qz57 := eq_true qz57
     obtain ⟨Ao142, co142, eo142⟩ := Kd.R_slice HO_11.out
     subst eo142
     have pz58 : 0 ≤ (x18_5 : Int) := of_decide_eq_true (by first | (with_reducible assumption) | assumption)
     have qz58 : x18_5 < (x11_1.length : Int) := of_decide_eq_true (by first | (with_reducible assumption) | assumption)
     obtain ⟨adz58, ez58, hxz58_0⟩ := Kd.at_string (Kd.R_reads' HO_11.out).2.2 x18_5 pz58 qz58
     cases ez58
     replace pz58 := eq_true pz58
     replace qz58 := eq_true qz58
     try go_wp2
     go_roundg k5
     case measure => have := HK1.out; have := HJ14.out; have := HJ23.out; have := HJ107.out; have := HK5.out; omega
     case rel => exact ⟨(wrap64 (x18_5 + 1)), (by first | rfl | (simp; done) | (simp [*]; done)), H', ⟨by have := HK1.out; have := HJ14.out; have := HJ23.out; have := HJ107.out; have := HK5.out; omega⟩, ⟨by (with_reducible repeat (first | apply Kd.R_alloc | apply Kd.R_drewN | apply Kd.R_drew)); exact HO_10.out⟩, ⟨by (with_reducible repeat (first | apply Kd.R_alloc | apply Kd.R_drewN | apply Kd.R_drew)); exact HO_11.out⟩, ⟨by (with_reducible repeat (first | apply Kd.R_alloc | apply Kd.R_drewN | apply Kd.R_drew)); exact HO_z15002.out⟩, ⟨by (with_reducible repeat (first | apply Kd.R_alloc | apply Kd.R_drewN | apply Kd.R_drew)); exact HO_z15003.out⟩, ⟨by (with_reducible repeat (first | refine blk_drewN ?_ _ | refine blk_drew ?_ | refine blk_alloc ?_ _)); exact BKz14.out⟩, ⟨by (with_reducible repeat (first | refine blk_drewN ?_ _ | refine blk_drew ?_ | refine blk_alloc ?_ _)); exact BKz16.out⟩, ⟨by repeat (first | (with_reducible first | exact HB.out | apply below_alloc | apply pw_below_drewN | apply below_drew1 | refine below_set ?_ GEz14.out | refine below_set ?_ GEz16.out) | exact HB.out)⟩⟩
    as_aux_lemma =>
     rw [if_pos c133] at H
     have c133b0 : ((rdOf ByteArray.empty x11_1 x18_5).toList == x15_23.toList) = true := beq_iff_eq.mpr c133
     have c133b1 : ((rdOf ByteArray.empty x11_1 x18_5).toList != x15_23.toList) = false := bne_eq_false_iff_eq.mpr c133
     clear c133
     by_cases c134 : xz15004_23 = true
     rotate_left
     ·replace c134 := Bool.eq_false_iff.mpr c134
      subst c134
      have H1 : (none) = some r := by rw [if_neg (show ¬ (false = true) by decide)] at H; exact H
      clear H
      have H := H1
      clear H1
      exact absurd H (by simp)
     subst c134
     have H1 : (columbariumlaw08_IdealKeeps.l1 k5 l2 tz1 x10_1 x11_1 x12_1 x14_23 x15_23 (wrap64 (x18_5 + 1)) xz15000_23 xz15001_23 xz15002_23 xz15003_23 true) = some r := by rw [if_pos rfl] at H; exact H
     clear H
     have H := H1
     clear H1
     have H' := am H
     clear H
     obtain ⟨Ao135, co135, eo135⟩ := Kd.R_slice HO_10.out
     subst eo135
     try go_wp2
     have n0_ := am (Kd.R_drew HO_10.out)
     have n1_ := am (Kd.R_drew HO_11.out)
     have n2_ := am (Kd.R_drew HO_z15002.out)
     have n3_ := am (Kd.R_drew HO_z15003.out)
     have n4_ := am (blk_drew BKz14.out)
     have n5_ := am (blk_drew BKz16.out)
     have n6_ := am (below_drew1 HB.out)
     clear HO_10 HO_11 HO_z15002 HO_z15003 BKz14 BKz16 HB; have HO_10 := n0_; have HO_11 := n1_; have HO_z15002 := n2_; have HO_z15003 := n3_; have BKz14 := n4_; have BKz16 := n5_; have HB := n6_; clear n0_ n1_ n2_ n3_ n4_ n5_ n6_
     have pz53 : 0 ≤ (x18_5 : Int) := of_decide_eq_true (by first | (with_reducible assumption) | assumption)
     have qz53 : x18_5 < (x10_1.length : Int) := of_decide_eq_true (by first | (with_reducible assumption) | assumption)
     obtain ⟨adz53, ez53, hxz53_0⟩ := Kd.at_string (Kd.R_reads' HO_10.out).2.2 x18_5 pz53 qz53
     cases ez53
     replace pz53 := eq_true pz53
     replace qz53 := eq_true qz53
     have p120 : 0 ≤ (0 : Int) := (by omega)
     have q120 : 0 < (rdOf ByteArray.empty x10_1 x18_5).size := (by have : (0 : Int) < ((rdOf ByteArray.empty x10_1 x18_5).size : Int) := of_decide_eq_true (by first | (with_reducible assumption) | assumption); omega)
     have hx120 : ∀ h : 0 < (rdOf ByteArray.empty x10_1 x18_5).size, (((rdOf ByteArray.empty x10_1 x18_5)[0]'h).toNat : Int) = bt (rdOf ByteArray.empty x10_1 x18_5) 0 := bt_at (rdOf ByteArray.empty x10_1 x18_5) 0
     clear p120
     have qi120 : (0 < ((rdOf ByteArray.empty x10_1 x18_5).size : Int)) = True := eq_true (of_decide_eq_true (by first | (with_reducible assumption) | assumption))
     replace q120 := eq_true q120
     have p122 : 0 ≤ (0 : Int) := (by omega)
     have q122 : 0 < x14_23.size := (by have : (0 : Int) < (x14_23.size : Int) := of_decide_eq_true (by first | (with_reducible assumption) | assumption); omega)
     have hx122 : ∀ h : 0 < x14_23.size, ((x14_23[0]'h).toNat : Int) = bt x14_23 0 := bt_at x14_23 0
     clear p122
     have qi122 : (0 < (x14_23.size : Int)) = True := eq_true (of_decide_eq_true (by first | (with_reducible assumption) | assumption))
     replace q122 := eq_true q122
     have p124 : 0 ≤ (0 : Int) := (by omega)
     have q124 : 0 < x14_23.size := (by have : (0 : Int) < (x14_23.size : Int) := of_decide_eq_true (by first | (with_reducible assumption) | assumption); omega)
     have hx124 : ∀ h : 0 < x14_23.size, ((x14_23[0]'h).toNat : Int) = bt x14_23 0 := bt_at x14_23 0
     clear p124
     have qi124 : (0 < (x14_23.size : Int)) = True := eq_true (of_decide_eq_true (by first | (with_reducible assumption) | assumption))
     replace q124 := eq_true q124
     refine start_ (n := 24) (S := fun w' => w'.cell? (adz53.add (x18_5).toNat) = some (.string (rdOf ByteArray.empty x10_1 x18_5))) (ds := []) #[false, false, false, false, false, false, false, false, false, false, false, false, false, false, false, false, false, false, false, false, false, false, false, false] (by kernel_rfl) rfl rfl (hxz53_0) (fun hHeld => ?_); refine with_tabW columbariumlaw08_IdealKeeps.tab25 columbariumlaw08_IdealKeeps.bits25 (fun HT_ HW_ => ?_)
     generalize wr.drew = w136 at HO_10 HO_11 HO_z15002 HO_z15003 BKz14 BKz16 HB hxz53_0 hHeld ⊢
     refine pu_ 0 (some 119) HT_ rfl rfl (by kernel_rfl) (fun _ _ _ h => h) (.inl ⟨by rfl, by intro w'; go_simp; with_reducible rfl⟩) (by simp only [Act.put, sa_, s0_, s1_, i64_w, i32_w]; rfl) ?_
     refine pu_ 1 (some 120) HT_ rfl rfl (by kernel_rfl) (fun _ _ _ h => h) (.inl ⟨by rfl, by intro w'; go_simp; with_reducible rfl⟩) (by simp only [Act.put, sa_, s0_, s1_, i64_w, i32_w]; rfl) ?_
     refine pu_ 2 (some 121) HT_ rfl rfl (by kernel_rfl) (fun _ _ _ h => h) (.inl ⟨by rfl, by intro w'; go_simp; with_reducible rfl⟩) (by simp only [Act.put, sa_, s0_, s1_, i64_w, i32_w]; rfl) ?_
     refine pu_ 5 (some 124) HT_ rfl rfl (by kernel_rfl) (fun _ _ _ h => h) (.inl ⟨by rfl, by intro w'; go_simp; with_reducible rfl⟩) (by simp only [Act.put, sa_, s0_, s1_, i64_w, i32_w]; rfl) ?_
     refine tk_ 3 (some 122) HT_ HW_ rfl rfl (by kernel_rfl) (fun _ _ _ h => h) (.inl ⟨by rfl, by intro w' s0; go_simp; with_reducible rfl⟩) hHeld (by simp only [Act.put, sa_, s0_, s1_, i64_w, i32_w]; rfl) ?_
     refine tk_ 4 (some 123) HT_ HW_ rfl rfl (by kernel_rfl) (fun _ _ _ h => h) (.inl ⟨by rfl, by intro w' s0; go_simp; with_reducible rfl⟩) hHeld (by simp only [Act.put, sa_, s0_, s1_, i64_w, i32_w]; rfl) ?_
     refine tk_ 6 (some 125) HT_ HW_ rfl rfl (by kernel_rfl) (fun _ _ _ h => h) (.inl ⟨by rfl, by intro w' s0; go_simp; with_reducible rfl⟩) hHeld (by simp only [Act.put, sa_, s0_, s1_, i64_w, i32_w]; rfl) ?_
     refine pu_ 7 (some 126) HT_ rfl rfl (by kernel_rfl) (fun _ _ _ h => h) (.inl ⟨by rfl, by intro w'; go_simp; with_reducible rfl⟩) (by simp only [Act.put, sa_, s0_, s1_, i64_w, i32_w]; rfl) ?_
     refine pu_ 8 (some 127) HT_ rfl rfl (by kernel_rfl) (fun _ _ _ h => h) (.inl ⟨by rfl, by intro w'; go_simp; with_reducible rfl⟩) (by simp only [Act.put, sa_, s0_, s1_, i64_w, i32_w]; rfl) ?_
     refine pu_ 9 (some 128) HT_ rfl rfl (by kernel_rfl) (fun _ _ _ h => h) (.inl ⟨by rfl, by intro w'; go_simp; with_reducible rfl⟩) (by simp only [Act.put, sa_, s0_, s1_, i64_w, i32_w]; rfl) ?_
     refine tk_ 10 (some 129) HT_ HW_ rfl rfl (by kernel_rfl) (fun _ _ _ h => h) (.inl ⟨by rfl, by intro w' s0; go_simp; with_reducible rfl⟩) hHeld (by simp only [Act.put, sa_, s0_, s1_, i64_w, i32_w]; rfl) ?_
     refine pu_ 11 (some 130) HT_ rfl rfl (by kernel_rfl) (fun _ _ _ h => h) (.inl ⟨by rfl, by intro w'; go_simp; with_reducible rfl⟩) (by simp only [Act.put, sa_, s0_, s1_, i64_w, i32_w]; rfl) ?_
     refine pu_ 12 (some 131) HT_ rfl rfl (by kernel_rfl) (fun _ _ _ h => h) (.inl ⟨by rfl, by intro w'; go_simp; with_reducible rfl⟩) (by simp only [Act.put, sa_, s0_, s1_, i64_w, i32_w]; rfl) ?_
     refine pure_ (i := 13) (N := some 132) (v := undef) (a' := ?_) #[true, true, true, true, true, true, true, true, true, true, true, true, true, true, false, false, false, false, false, false, false, false, false, false] rfl rfl (any_of HT_.out (by kernel_rfl)) (fun _ _ _ h => h) (Or.inr ⟨by rfl, rfl⟩) ?_ ?_
     rotate_left
     ·simp only [Act.put, List.setIfInBounds_toArray, List.set_cons_zero, List.set_cons_succ, i64_w, i32_w]
      rfl
     refine pure_ (i := 14) (N := some 133) (v := undef) (a' := ?_) #[true, true, true, true, true, true, true, true, true, true, true, true, true, true, true, false, false, false, false, false, false, false, false, false] rfl rfl (any_of HT_.out (by kernel_rfl)) (fun _ _ _ h => h) (Or.inr ⟨by rfl, rfl⟩) ?_ ?_
     rotate_left
     ·simp only [Act.put, List.setIfInBounds_toArray, List.set_cons_zero, List.set_cons_succ, i64_w, i32_w]
      rfl
     refine pure_ (i := 15) (N := some 134) (v := undef) (a' := ?_) #[true, true, true, true, true, true, true, true, true, true, true, true, true, true, true, true, false, false, false, false, false, false, false, false] rfl rfl (any_of HT_.out (by kernel_rfl)) (fun _ _ _ h => h) (Or.inr ⟨by rfl, rfl⟩) ?_ ?_
     rotate_left
     ·simp only [Act.put, List.setIfInBounds_toArray, List.set_cons_zero, List.set_cons_succ, i64_w, i32_w]
      rfl
     refine pure_ (i := 16) (N := some 135) (v := undef) (a' := ?_) #[true, true, true, true, true, true, true, true, true, true, true, true, true, true, true, true, true, false, false, false, false, false, false, false] rfl rfl (any_of HT_.out (by kernel_rfl)) (fun _ _ _ h => h) (Or.inr ⟨by rfl, rfl⟩) ?_ ?_
     rotate_left
     ·simp only [Act.put, List.setIfInBounds_toArray, List.set_cons_zero, List.set_cons_succ, i64_w, i32_w]
      rfl
     refine pure_ (i := 17) (N := some 136) (v := undef) (a' := ?_) #[true, true, true, true, true, true, true, true, true, true, true, true, true, true, true, true, true, true, false, false, false, false, false, false] rfl rfl (any_of HT_.out (by kernel_rfl)) (fun _ _ _ h => h) (Or.inr ⟨by rfl, rfl⟩) ?_ ?_
     rotate_left
     ·simp only [Act.put, List.setIfInBounds_toArray, List.set_cons_zero, List.set_cons_succ, i64_w, i32_w]
      rfl
     refine pure_ (i := 18) (N := some 137) (v := undef) (a' := ?_) #[true, true, true, true, true, true, true, true, true, true, true, true, true, true, true, true, true, true, true, false, false, false, false, false] rfl rfl (any_of HT_.out (by kernel_rfl)) (fun _ _ _ h => h) (Or.inr ⟨by rfl, rfl⟩) ?_ ?_
     rotate_left
     ·simp only [Act.put, List.setIfInBounds_toArray, List.set_cons_zero, List.set_cons_succ, i64_w, i32_w]
      rfl
     refine pure_ (i := 19) (N := some 138) (v := undef) (a' := ?_) #[true, true, true, true, true, true, true, true, true, true, true, true, true, true, true, true, true, true, true, true, false, false, false, false] rfl rfl (any_of HT_.out (by kernel_rfl)) (fun _ _ _ h => h) (Or.inr ⟨by rfl, rfl⟩) ?_ ?_
     rotate_left
     ·simp only [Act.put, List.setIfInBounds_toArray, List.set_cons_zero, List.set_cons_succ, i64_w, i32_w]
      rfl
     refine pure_ (i := 20) (N := some 139) (v := undef) (a' := ?_) #[true, true, true, true, true, true, true, true, true, true, true, true, true, true, true, true, true, true, true, true, true, false, false, false] rfl rfl (any_of HT_.out (by kernel_rfl)) (fun _ _ _ h => h) (Or.inr ⟨by rfl, rfl⟩) ?_ ?_
     rotate_left
     ·simp only [Act.put, List.setIfInBounds_toArray, List.set_cons_zero, List.set_cons_succ, i64_w, i32_w]
      rfl
     refine pu_ 21 (some 140) HT_ rfl rfl (by kernel_rfl) (fun _ _ _ h => h) (.inl ⟨by rfl, by intro w'; go_simp; with_reducible rfl⟩) (by simp only [Act.put, sa_, s0_, s1_, i64_w, i32_w]; rfl) ?_
     refine pu_ 22 (some 141) HT_ rfl rfl (by kernel_rfl) (fun _ _ _ h => h) (.inl ⟨by rfl, by intro w'; go_simp; with_reducible rfl⟩) (by simp only [Act.put, sa_, s0_, s1_, i64_w, i32_w]; rfl) ?_
     refine pu_ 23 (some 19) HT_ rfl rfl (by kernel_rfl) (fun _ _ _ h => h) (.inl ⟨by rfl, by intro w'; go_simp; with_reducible rfl⟩) (by simp only [Act.put, sa_, s0_, s1_, i64_w, i32_w]; rfl) ?_
     refine done_ (done_of HT_.out (by kernel_rfl)) ?_
     have pz54 : 0 ≤ (x18_5 : Int) := of_decide_eq_true (by first | (with_reducible assumption) | assumption)
     have qz54 : x18_5 < (x10_1.length : Int) := of_decide_eq_true (by first | (with_reducible assumption) | assumption)
     obtain ⟨adz54, ez54, hxz54_0⟩ := Kd.at_string (Kd.R_reads' HO_10.out).2.2 x18_5 pz54 qz54
     obtain rfl : adz53 = adz54 := (by injection ez54)
     replace pz54 := eq_true pz54
     replace qz54 := eq_true qz54
     have pz57 : 0 ≤ (x18_5 : Int) := of_decide_eq_true (by first | (with_reducible assumption) | assumption)
     have qz57 : x18_5 < (x10_1.length : Int) := of_decide_eq_true (by first | (with_reducible assumption) | assumption)
     obtain ⟨adz57, ez57, hxz57_0⟩ := Kd.at_string (Kd.R_reads' HO_10.out).2.2 x18_5 pz57 qz57
     obtain rfl : adz53 = adz57 := (by injection ez57)
     replace pz57 := eq_true pz57
     replace qz57 := eq_true qz57
     obtain ⟨Ao137, co137, eo137⟩ := Kd.R_slice HO_11.out
     subst eo137
     have pz58 : 0 ≤ (x18_5 : Int) := of_decide_eq_true (by first | (with_reducible assumption) | assumption)
     have qz58 : x18_5 < (x11_1.length : Int) := of_decide_eq_true (by first | (with_reducible assumption) | assumption)
     obtain ⟨adz58, ez58, hxz58_0⟩ := Kd.at_string (Kd.R_reads' HO_11.out).2.2 x18_5 pz58 qz58
     cases ez58
     replace pz58 := eq_true pz58
     replace qz58 := eq_true qz58
     have hnb138 := NBz14_z16.out
     have hnc138 := NBz16_z14.out
     have hcz139_0 : w136.cell? ⟨gbz14, 0, none⟩ = some (.string xz15000_23) := (blk_cell BKz14.out 0).trans rfl
     have hcz139_1 : w136.cell? ⟨gbz14, 1, none⟩ = some (.int .i64 xz15001_23) := (blk_cell BKz14.out 1).trans rfl
     have hcz139_2 : w136.cell? ⟨gbz14, 2, none⟩ = some (uz15002) := (blk_cell BKz14.out 2).trans rfl
     have hcz139_3 : w136.cell? ⟨gbz14, 3, none⟩ = some (uz15003) := (blk_cell BKz14.out 3).trans rfl
     have hcz139_4 : w136.cell? ⟨gbz14, 4, none⟩ = some (.bool true) := (blk_cell BKz14.out 4).trans rfl
     have hfz139_0 := blk_frozen BKz14.out 0
     have hfz139_1 := blk_frozen BKz14.out 1
     have hfz139_2 := blk_frozen BKz14.out 2
     have hfz139_3 := blk_frozen BKz14.out 3
     have hfz139_4 := blk_frozen BKz14.out 4
     try go_wp2
     go_roundg k5
     case measure => have := HK1.out; have := HJ14.out; have := HJ23.out; have := HJ107.out; have := HK5.out; omega
     case rel => exact ⟨(wrap64 (x18_5 + 1)), (by first | rfl | (simp; done) | (simp [*]; done)), H', ⟨by have := HK1.out; have := HJ14.out; have := HJ23.out; have := HJ107.out; have := HK5.out; omega⟩, ⟨by (with_reducible repeat (first | apply Kd.R_alloc | apply Kd.R_drewN | apply Kd.R_drew)); exact HO_10.out⟩, ⟨by (with_reducible repeat (first | apply Kd.R_alloc | apply Kd.R_drewN | apply Kd.R_drew)); exact HO_11.out⟩, ⟨by (with_reducible repeat (first | apply Kd.R_alloc | apply Kd.R_drewN | apply Kd.R_drew)); exact HO_z15002.out⟩, ⟨by (with_reducible repeat (first | apply Kd.R_alloc | apply Kd.R_drewN | apply Kd.R_drew)); exact HO_z15003.out⟩, ⟨by (with_reducible repeat (first | refine blk_drewN ?_ _ | refine blk_drew ?_ | refine blk_alloc ?_ _)); exact BKz14.out⟩, ⟨by (with_reducible repeat (first | refine blk_drewN ?_ _ | refine blk_drew ?_ | refine blk_alloc ?_ _)); exact BKz16.out⟩, ⟨by repeat (first | (with_reducible first | exact HB.out | apply below_alloc | apply pw_below_drewN | apply below_drew1 | refine below_set ?_ GEz14.out | refine below_set ?_ GEz16.out) | exact HB.out)⟩⟩
  rw [if_neg c125] at H
  have c125b0 : ((bt x14_23 0) == 102) = false := beq_eq_false_iff_ne.mpr c125
  have c125b1 : ((bt x14_23 0) != 102) = true := bne_iff_ne.mpr c125
  by_cases c143 : 1 ≤ 17
  rotate_left
  ·rw [if_neg c143] at H
   exact absurd H (by simp)
  rw [if_pos c143] at H
  have c143b0 := eq_true c143
  have c143b1 : decide (1 ≤ 17) = true := decide_eq_true c143
  clear c143
  by_cases c144 : 17 ≤ ((rdOf ByteArray.empty x10_1 x18_5).size : Int)
  rotate_left
  ·rw [if_neg c144] at H
   exact absurd H (by simp)
  rw [if_pos c144] at H
  have c144b0 := eq_true c144
  have c144b1 : decide (17 ≤ ((rdOf ByteArray.empty x10_1 x18_5).size : Int)) = true := decide_eq_true c144
  clear c144
  obtain ⟨sx145, hsx145⟩ : ∃ s_ : ByteArray, ((rdOf ByteArray.empty x10_1 x18_5).extract 1 17) = s_ := ⟨_, rfl⟩
  replace H : (if 17 ≤ (x14_23.size : Int) then (if (rdOf ByteArray.empty x10_1 x18_5).toList = x14_23.toList then (if x18_5 < (x11_1.length : Int) then (if (rdOf ByteArray.empty x11_1 x18_5).toList = x15_23.toList then (columbariumlaw08_IdealKeeps.l1 k5 l2 tz1 x10_1 x11_1 x12_1 x14_23 x15_23 (wrap64 (x18_5 + 1)) xz15000_23 xz15001_23 xz15002_23 xz15003_23 xz15004_23) else (none)) else (none)) else (if (sx145).toList = (x14_23.extract 1 17).toList then (if x18_5 < (x11_1.length : Int) then (if (rdOf ByteArray.empty x11_1 x18_5).toList = x15_23.toList then (if xz15004_23 = true then (columbariumlaw08_IdealKeeps.l1 k5 l2 tz1 x10_1 x11_1 x12_1 x14_23 x15_23 (wrap64 (x18_5 + 1)) xz15000_23 xz15001_23 xz15002_23 xz15003_23 xz15004_23) else (none)) else (columbariumlaw08_IdealKeeps.l1 k5 l2 tz1 x10_1 x11_1 x12_1 x14_23 x15_23 (wrap64 (x18_5 + 1)) xz15000_23 xz15001_23 xz15002_23 xz15003_23 xz15004_23)) else (none)) else (columbariumlaw08_IdealKeeps.l1 k5 l2 tz1 x10_1 x11_1 x12_1 x14_23 x15_23 (wrap64 (x18_5 + 1)) xz15000_23 xz15001_23 xz15002_23 xz15003_23 xz15004_23))) else (none)) = some r := by first | (rw [hsx145] at H; exact H) | (simp only [hsx145] at H ⊢; exact H) | exact H
  have c146b0 := eq_true (of_decide_eq_true (by first | (with_reducible assumption) | assumption) : 1 ≤ 17)
  by_cases c147 : 17 ≤ (x14_23.size : Int)
  rotate_left
  ·rw [if_neg c147] at H
   exact absurd H (by simp)
  rw [if_pos c147] at H
  have c147b0 := eq_true c147
  have c147b1 : decide (17 ≤ (x14_23.size : Int)) = true := decide_eq_true c147
  clear c147
  obtain ⟨sx148, hsx148⟩ : ∃ s_ : ByteArray, (x14_23.extract 1 17) = s_ := ⟨_, rfl⟩
  replace H : (if (rdOf ByteArray.empty x10_1 x18_5).toList = x14_23.toList then (if x18_5 < (x11_1.length : Int) then (if (rdOf ByteArray.empty x11_1 x18_5).toList = x15_23.toList then (columbariumlaw08_IdealKeeps.l1 k5 l2 tz1 x10_1 x11_1 x12_1 x14_23 x15_23 (wrap64 (x18_5 + 1)) xz15000_23 xz15001_23 xz15002_23 xz15003_23 xz15004_23) else (none)) else (none)) else (if (sx145).toList = (sx148).toList then (if x18_5 < (x11_1.length : Int) then (if (rdOf ByteArray.empty x11_1 x18_5).toList = x15_23.toList then (if xz15004_23 = true then (columbariumlaw08_IdealKeeps.l1 k5 l2 tz1 x10_1 x11_1 x12_1 x14_23 x15_23 (wrap64 (x18_5 + 1)) xz15000_23 xz15001_23 xz15002_23 xz15003_23 xz15004_23) else (none)) else (columbariumlaw08_IdealKeeps.l1 k5 l2 tz1 x10_1 x11_1 x12_1 x14_23 x15_23 (wrap64 (x18_5 + 1)) xz15000_23 xz15001_23 xz15002_23 xz15003_23 xz15004_23)) else (none)) else (columbariumlaw08_IdealKeeps.l1 k5 l2 tz1 x10_1 x11_1 x12_1 x14_23 x15_23 (wrap64 (x18_5 + 1)) xz15000_23 xz15001_23 xz15002_23 xz15003_23 xz15004_23))) = some r := by first | (rw [hsx148] at H; exact H) | (simp only [hsx148] at H ⊢; exact H) | exact H
  by_cases c149 : (rdOf ByteArray.empty x10_1 x18_5).toList = x14_23.toList
  ·rw [if_pos c149] at H
   have c149b0 : ((rdOf ByteArray.empty x10_1 x18_5).toList == x14_23.toList) = true := beq_iff_eq.mpr c149
   have c149b1 : ((rdOf ByteArray.empty x10_1 x18_5).toList != x14_23.toList) = false := bne_eq_false_iff_eq.mpr c149
   clear c149
   by_cases c150 : x18_5 < (x11_1.length : Int)
   rotate_left
   ·rw [if_neg c150] at H
    exact absurd H (by simp)
   rw [if_pos c150] at H
   have c150b0 : decide (x18_5 < (x11_1.length : Int)) = true := decide_eq_true c150
   clear c150
   by_cases c151 : (rdOf ByteArray.empty x11_1 x18_5).toList = x15_23.toList
   rotate_left
   ·rw [if_neg c151] at H
    exact absurd H (by simp)
   rw [if_pos c151] at H
   have c151b0 : ((rdOf ByteArray.empty x11_1 x18_5).toList == x15_23.toList) = true := beq_iff_eq.mpr c151
   have c151b1 : ((rdOf ByteArray.empty x11_1 x18_5).toList != x15_23.toList) = false := bne_eq_false_iff_eq.mpr c151
   clear c151
   have H' := am H
   clear H
   obtain ⟨Ao152, co152, eo152⟩ := Kd.R_slice HO_10.out
   subst eo152
   try go_wp2
   have n0_ := am (Kd.R_drew HO_10.out)
   have n1_ := am (Kd.R_drew HO_11.out)
   have n2_ := am (Kd.R_drew HO_z15002.out)
   have n3_ := am (Kd.R_drew HO_z15003.out)
   have n4_ := am (blk_drew BKz14.out)
   have n5_ := am (blk_drew BKz16.out)
   have n6_ := am (below_drew1 HB.out)
   clear HO_10 HO_11 HO_z15002 HO_z15003 BKz14 BKz16 HB; have HO_10 := n0_; have HO_11 := n1_; have HO_z15002 := n2_; have HO_z15003 := n3_; have BKz14 := n4_; have BKz16 := n5_; have HB := n6_; clear n0_ n1_ n2_ n3_ n4_ n5_ n6_
   have pz53 : 0 ≤ (x18_5 : Int) := of_decide_eq_true (by first | (with_reducible assumption) | assumption)
   have qz53 : x18_5 < (x10_1.length : Int) := of_decide_eq_true (by first | (with_reducible assumption) | assumption)
   obtain ⟨adz53, ez53, hxz53_0⟩ := Kd.at_string (Kd.R_reads' HO_10.out).2.2 x18_5 pz53 qz53
   cases ez53
   replace pz53 := eq_true pz53
   replace qz53 := eq_true qz53
   have p120 : 0 ≤ (0 : Int) := (by omega)
   have q120 : 0 < (rdOf ByteArray.empty x10_1 x18_5).size := (by have : (0 : Int) < ((rdOf ByteArray.empty x10_1 x18_5).size : Int) := of_decide_eq_true (by first | (with_reducible assumption) | assumption); omega)
   have hx120 : ∀ h : 0 < (rdOf ByteArray.empty x10_1 x18_5).size, (((rdOf ByteArray.empty x10_1 x18_5)[0]'h).toNat : Int) = bt (rdOf ByteArray.empty x10_1 x18_5) 0 := bt_at (rdOf ByteArray.empty x10_1 x18_5) 0
   clear p120
   have qi120 : (0 < ((rdOf ByteArray.empty x10_1 x18_5).size : Int)) = True := eq_true (of_decide_eq_true (by first | (with_reducible assumption) | assumption))
   replace q120 := eq_true q120
   have p122 : 0 ≤ (0 : Int) := (by omega)
   have q122 : 0 < x14_23.size := (by have : (0 : Int) < (x14_23.size : Int) := of_decide_eq_true (by first | (with_reducible assumption) | assumption); omega)
   have hx122 : ∀ h : 0 < x14_23.size, ((x14_23[0]'h).toNat : Int) = bt x14_23 0 := bt_at x14_23 0
   clear p122
   have qi122 : (0 < (x14_23.size : Int)) = True := eq_true (of_decide_eq_true (by first | (with_reducible assumption) | assumption))
   replace q122 := eq_true q122
   have p124 : 0 ≤ (0 : Int) := (by omega)
   have q124 : 0 < x14_23.size := (by have : (0 : Int) < (x14_23.size : Int) := of_decide_eq_true (by first | (with_reducible assumption) | assumption); omega)
   have hx124 : ∀ h : 0 < x14_23.size, ((x14_23[0]'h).toNat : Int) = bt x14_23 0 := bt_at x14_23 0
   clear p124
   have qi124 : (0 < (x14_23.size : Int)) = True := eq_true (of_decide_eq_true (by first | (with_reducible assumption) | assumption))
   replace q124 := eq_true q124
   have pz59 : 0 ≤ (x18_5 : Int) := of_decide_eq_true (by first | (with_reducible assumption) | assumption)
   have qz59 : x18_5 < (x10_1.length : Int) := of_decide_eq_true (by first | (with_reducible assumption) | assumption)
   obtain ⟨adz59, ez59, hxz59_0⟩ := Kd.at_string (Kd.R_reads' HO_10.out).2.2 x18_5 pz59 qz59
   obtain rfl : adz53 = adz59 := (by injection ez59)
   replace pz59 := eq_true pz59
   replace qz59 := eq_true qz59
   refine start_ (n := 24) (S := fun w' => w'.cell? (adz53.add (x18_5).toNat) = some (.string (rdOf ByteArray.empty x10_1 x18_5)) ∧ w'.cell? (adz53.add (x18_5).toNat) = some (.string (rdOf ByteArray.empty x10_1 x18_5))) (ds := []) #[false, false, false, false, false, false, false, false, false, false, false, false, false, false, false, false, false, false, false, false, false, false, false, false] (by kernel_rfl) rfl rfl ⟨hxz53_0, hxz59_0⟩ (fun hHeld => ?_); refine with_tabW columbariumlaw08_IdealKeeps.tab25 columbariumlaw08_IdealKeeps.bits25 (fun HT_ HW_ => ?_)
   generalize wr.drew = w153 at HO_10 HO_11 HO_z15002 HO_z15003 BKz14 BKz16 HB hxz53_0 hxz59_0 hHeld ⊢
   refine pu_ 0 (some 119) HT_ rfl rfl (by kernel_rfl) (fun _ _ _ h => h) (.inl ⟨by rfl, by intro w'; go_simp; with_reducible rfl⟩) (by simp only [Act.put, sa_, s0_, s1_, i64_w, i32_w]; rfl) ?_
   refine pu_ 1 (some 120) HT_ rfl rfl (by kernel_rfl) (fun _ _ _ h => h) (.inl ⟨by rfl, by intro w'; go_simp; with_reducible rfl⟩) (by simp only [Act.put, sa_, s0_, s1_, i64_w, i32_w]; rfl) ?_
   refine pu_ 2 (some 121) HT_ rfl rfl (by kernel_rfl) (fun _ _ _ h => h) (.inl ⟨by rfl, by intro w'; go_simp; with_reducible rfl⟩) (by simp only [Act.put, sa_, s0_, s1_, i64_w, i32_w]; rfl) ?_
   refine pu_ 5 (some 124) HT_ rfl rfl (by kernel_rfl) (fun _ _ _ h => h) (.inl ⟨by rfl, by intro w'; go_simp; with_reducible rfl⟩) (by simp only [Act.put, sa_, s0_, s1_, i64_w, i32_w]; rfl) ?_
   refine tk_ 3 (some 122) HT_ HW_ rfl rfl (by kernel_rfl) (fun _ _ _ h => h) (.inl ⟨by rfl, by rintro w' ⟨s0, s1⟩; go_simp; with_reducible rfl⟩) hHeld (by simp only [Act.put, sa_, s0_, s1_, i64_w, i32_w]; rfl) ?_
   refine tk_ 4 (some 123) HT_ HW_ rfl rfl (by kernel_rfl) (fun _ _ _ h => h) (.inl ⟨by rfl, by rintro w' ⟨s0, s1⟩; go_simp; with_reducible rfl⟩) hHeld (by simp only [Act.put, sa_, s0_, s1_, i64_w, i32_w]; rfl) ?_
   refine tk_ 6 (some 125) HT_ HW_ rfl rfl (by kernel_rfl) (fun _ _ _ h => h) (.inl ⟨by rfl, by rintro w' ⟨s0, s1⟩; go_simp; with_reducible rfl⟩) hHeld (by simp only [Act.put, sa_, s0_, s1_, i64_w, i32_w]; rfl) ?_
   refine pu_ 7 (some 126) HT_ rfl rfl (by kernel_rfl) (fun _ _ _ h => h) (.inl ⟨by rfl, by intro w'; go_simp; with_reducible rfl⟩) (by simp only [Act.put, sa_, s0_, s1_, i64_w, i32_w]; rfl) ?_
   refine pu_ 8 (some 127) HT_ rfl rfl (by kernel_rfl) (fun _ _ _ h => h) (.inl ⟨by rfl, by intro w'; go_simp; with_reducible rfl⟩) (by simp only [Act.put, sa_, s0_, s1_, i64_w, i32_w]; rfl) ?_
   refine pu_ 9 (some 128) HT_ rfl rfl (by kernel_rfl) (fun _ _ _ h => h) (.inl ⟨by rfl, by intro w'; go_simp; with_reducible rfl⟩) (by simp only [Act.put, sa_, s0_, s1_, i64_w, i32_w]; rfl) ?_
   refine tk_ 10 (some 129) HT_ HW_ rfl rfl (by kernel_rfl) (fun _ _ _ h => h) (.inl ⟨by rfl, by rintro w' ⟨s0, s1⟩; go_simp; with_reducible rfl⟩) hHeld (by simp only [Act.put, sa_, s0_, s1_, i64_w, i32_w]; rfl) ?_
   refine pu_ 11 (some 130) HT_ rfl rfl (by kernel_rfl) (fun _ _ _ h => h) (.inl ⟨by rfl, by intro w'; go_simp; with_reducible rfl⟩) (by simp only [Act.put, sa_, s0_, s1_, i64_w, i32_w]; rfl) ?_
   refine pu_ 12 (some 131) HT_ rfl rfl (by kernel_rfl) (fun _ _ _ h => h) (.inl ⟨by rfl, by intro w'; go_simp; with_reducible rfl⟩) (by simp only [Act.put, sa_, s0_, s1_, i64_w, i32_w]; rfl) ?_
   refine pu_ 13 (some 132) HT_ rfl rfl (by kernel_rfl) (fun _ _ _ h => h) (.inl ⟨by rfl, by intro w'; go_simp; with_reducible rfl⟩) (by simp only [Act.put, sa_, s0_, s1_, i64_w, i32_w]; rfl) ?_
   refine pu_ 14 (some 133) HT_ rfl rfl (by kernel_rfl) (fun _ _ _ h => h) (.inl ⟨by rfl, by intro w'; go_simp; with_reducible rfl⟩) (by simp only [Act.put, sa_, s0_, s1_, i64_w, i32_w]; rfl) ?_
   refine pu_ 15 (some 134) HT_ rfl rfl (by kernel_rfl) (fun _ _ _ h => h) (.inl ⟨by rfl, by intro w'; go_simp; with_reducible rfl⟩) (by simp only [Act.put, sa_, s0_, s1_, i64_w, i32_w]; rfl) ?_
   refine pu_ 18 (some 137) HT_ rfl rfl (by kernel_rfl) (fun _ _ _ h => h) (.inl ⟨by rfl, by intro w'; go_simp; with_reducible rfl⟩) (by simp only [Act.put, sa_, s0_, s1_, i64_w, i32_w]; rfl) ?_
   refine pu_ 19 (some 138) HT_ rfl rfl (by kernel_rfl) (fun _ _ _ h => h) (.inl ⟨by rfl, by intro w'; go_simp; with_reducible rfl⟩) (by simp only [Act.put, sa_, s0_, s1_, i64_w, i32_w]; rfl) ?_
   refine tk_ 16 (some 135) HT_ HW_ rfl rfl (by kernel_rfl) (fun _ _ _ h => h) (.inl ⟨by rfl, by rintro w' ⟨s0, s1⟩; go_simp; with_reducible rfl⟩) hHeld (by simp only [Act.put, sa_, s0_, s1_, i64_w, i32_w]; rfl) ?_
   refine pu_ 17 (some 136) HT_ rfl rfl (by kernel_rfl) (fun _ _ _ h => h) (.inl ⟨by rfl, by intro w'; go_simp; with_reducible rfl⟩) (by simp only [Act.put, sa_, s0_, s1_, i64_w, i32_w]; rfl) ?_
   refine pu_ 20 (some 139) HT_ rfl rfl (by kernel_rfl) (fun _ _ _ h => h) (.inl ⟨by rfl, by intro w'; go_simp; with_reducible rfl⟩) (by simp only [Act.put, sa_, s0_, s1_, i64_w, i32_w]; rfl) ?_
   refine pu_ 21 (some 140) HT_ rfl rfl (by kernel_rfl) (fun _ _ _ h => h) (.inl ⟨by rfl, by intro w'; go_simp; with_reducible rfl⟩) (by simp only [Act.put, sa_, s0_, s1_, i64_w, i32_w]; rfl) ?_
   refine pu_ 22 (some 141) HT_ rfl rfl (by kernel_rfl) (fun _ _ _ h => h) (.inl ⟨by rfl, by intro w'; go_simp; with_reducible rfl⟩) (by simp only [Act.put, sa_, s0_, s1_, i64_w, i32_w]; rfl) ?_
   refine pu_ 23 (some 19) HT_ rfl rfl (by kernel_rfl) (fun _ _ _ h => h) (.inl ⟨by rfl, by intro w'; go_simp; with_reducible rfl⟩) (by simp only [Act.put, sa_, s0_, s1_, i64_w, i32_w]; rfl) ?_
   refine done_ (done_of HT_.out (by kernel_rfl)) ?_
   have pz60 : 0 ≤ (x18_5 : Int) := of_decide_eq_true (by first | (with_reducible assumption) | assumption)
   have qz60 : x18_5 < (x10_1.length : Int) := of_decide_eq_true (by first | (with_reducible assumption) | assumption)
   obtain ⟨adz60, ez60, hxz60_0⟩ := Kd.at_string (Kd.R_reads' HO_10.out).2.2 x18_5 pz60 qz60
   obtain rfl : adz53 = adz60 := (by injection ez60)
   replace pz60 := eq_true pz60
   replace qz60 := eq_true qz60
   obtain ⟨Ao154, co154, eo154⟩ := Kd.R_slice HO_11.out
   subst eo154
   have pz61 : 0 ≤ (x18_5 : Int) := of_decide_eq_true (by first | (with_reducible assumption) | assumption)
   have qz61 : x18_5 < (x11_1.length : Int) := of_decide_eq_true (by first | (with_reducible assumption) | assumption)
   obtain ⟨adz61, ez61, hxz61_0⟩ := Kd.at_string (Kd.R_reads' HO_11.out).2.2 x18_5 pz61 qz61
   cases ez61
   replace pz61 := eq_true pz61
   replace qz61 := eq_true qz61
   have pz62 : 0 ≤ (x18_5 : Int) := of_decide_eq_true (by first | (with_reducible assumption) | assumption)
   have qz62 : x18_5 < (x10_1.length : Int) := of_decide_eq_true (by first | (with_reducible assumption) | assumption)
   obtain ⟨adz62, ez62, hxz62_0⟩ := Kd.at_string (Kd.R_reads' HO_10.out).2.2 x18_5 pz62 qz62
   obtain rfl : adz53 = adz62 := (by injection ez62)
   replace pz62 := eq_true pz62
   replace qz62 := eq_true qz62
   try go_wp2
   go_roundg k5
   case measure => have := HK1.out; have := HJ14.out; have := HJ23.out; have := HJ107.out; have := HK5.out; omega
   case rel => exact ⟨(wrap64 (x18_5 + 1)), (by first | rfl | (simp; done) | (simp [*]; done)), H', ⟨by have := HK1.out; have := HJ14.out; have := HJ23.out; have := HJ107.out; have := HK5.out; omega⟩, ⟨by (with_reducible repeat (first | apply Kd.R_alloc | apply Kd.R_drewN | apply Kd.R_drew)); exact HO_10.out⟩, ⟨by (with_reducible repeat (first | apply Kd.R_alloc | apply Kd.R_drewN | apply Kd.R_drew)); exact HO_11.out⟩, ⟨by (with_reducible repeat (first | apply Kd.R_alloc | apply Kd.R_drewN | apply Kd.R_drew)); exact HO_z15002.out⟩, ⟨by (with_reducible repeat (first | apply Kd.R_alloc | apply Kd.R_drewN | apply Kd.R_drew)); exact HO_z15003.out⟩, ⟨by (with_reducible repeat (first | refine blk_drewN ?_ _ | refine blk_drew ?_ | refine blk_alloc ?_ _)); exact BKz14.out⟩, ⟨by (with_reducible repeat (first | refine blk_drewN ?_ _ | refine blk_drew ?_ | refine blk_alloc ?_ _)); exact BKz16.out⟩, ⟨by repeat (first | (with_reducible first | exact HB.out | apply below_alloc | apply pw_below_drewN | apply below_drew1 | refine below_set ?_ GEz14.out | refine below_set ?_ GEz16.out) | exact HB.out)⟩⟩
  as_aux_lemma =>
   rw [if_neg c149] at H
   have c149b0 : ((rdOf ByteArray.empty x10_1 x18_5).toList == x14_23.toList) = false := beq_eq_false_iff_ne.mpr c149
   have c149b1 : ((rdOf ByteArray.empty x10_1 x18_5).toList != x14_23.toList) = true := bne_iff_ne.mpr c149
   by_cases c155 : (sx145).toList = (sx148).toList
   rotate_left
   ·rw [if_neg c155] at H
    have c155b0 : ((sx145).toList == (sx148).toList) = false := beq_eq_false_iff_ne.mpr c155
    have c155b1 : ((sx145).toList != (sx148).toList) = true := bne_iff_ne.mpr c155
    have H' := am H
    clear H
    obtain ⟨Ao167, co167, eo167⟩ := Kd.R_slice HO_10.out
    subst eo167
    try go_wp2
    have n0_ := am (Kd.R_drew HO_10.out)
    have n1_ := am (Kd.R_drew HO_11.out)
    have n2_ := am (Kd.R_drew HO_z15002.out)
    have n3_ := am (Kd.R_drew HO_z15003.out)
    have n4_ := am (blk_drew BKz14.out)
    have n5_ := am (blk_drew BKz16.out)
    have n6_ := am (below_drew1 HB.out)
    clear HO_10 HO_11 HO_z15002 HO_z15003 BKz14 BKz16 HB; have HO_10 := n0_; have HO_11 := n1_; have HO_z15002 := n2_; have HO_z15003 := n3_; have BKz14 := n4_; have BKz16 := n5_; have HB := n6_; clear n0_ n1_ n2_ n3_ n4_ n5_ n6_
    have pz53 : 0 ≤ (x18_5 : Int) := of_decide_eq_true (by first | (with_reducible assumption) | assumption)
    have qz53 : x18_5 < (x10_1.length : Int) := of_decide_eq_true (by first | (with_reducible assumption) | assumption)
    obtain ⟨adz53, ez53, hxz53_0⟩ := Kd.at_string (Kd.R_reads' HO_10.out).2.2 x18_5 pz53 qz53
    cases ez53
    replace pz53 := eq_true pz53
    replace qz53 := eq_true qz53
    have p120 : 0 ≤ (0 : Int) := (by omega)
    have q120 : 0 < (rdOf ByteArray.empty x10_1 x18_5).size := (by have : (0 : Int) < ((rdOf ByteArray.empty x10_1 x18_5).size : Int) := of_decide_eq_true (by first | (with_reducible assumption) | assumption); omega)
    have hx120 : ∀ h : 0 < (rdOf ByteArray.empty x10_1 x18_5).size, (((rdOf ByteArray.empty x10_1 x18_5)[0]'h).toNat : Int) = bt (rdOf ByteArray.empty x10_1 x18_5) 0 := bt_at (rdOf ByteArray.empty x10_1 x18_5) 0
    clear p120
    have qi120 : (0 < ((rdOf ByteArray.empty x10_1 x18_5).size : Int)) = True := eq_true (of_decide_eq_true (by first | (with_reducible assumption) | assumption))
    replace q120 := eq_true q120
    have p122 : 0 ≤ (0 : Int) := (by omega)
    have q122 : 0 < x14_23.size := (by have : (0 : Int) < (x14_23.size : Int) := of_decide_eq_true (by first | (with_reducible assumption) | assumption); omega)
    have hx122 : ∀ h : 0 < x14_23.size, ((x14_23[0]'h).toNat : Int) = bt x14_23 0 := bt_at x14_23 0
    clear p122
    have qi122 : (0 < (x14_23.size : Int)) = True := eq_true (of_decide_eq_true (by first | (with_reducible assumption) | assumption))
    replace q122 := eq_true q122
    have p124 : 0 ≤ (0 : Int) := (by omega)
    have q124 : 0 < x14_23.size := (by have : (0 : Int) < (x14_23.size : Int) := of_decide_eq_true (by first | (with_reducible assumption) | assumption); omega)
    have hx124 : ∀ h : 0 < x14_23.size, ((x14_23[0]'h).toNat : Int) = bt x14_23 0 := bt_at x14_23 0
    clear p124
    have qi124 : (0 < (x14_23.size : Int)) = True := eq_true (of_decide_eq_true (by first | (with_reducible assumption) | assumption))
    replace q124 := eq_true q124
    have pz59 : 0 ≤ (x18_5 : Int) := of_decide_eq_true (by first | (with_reducible assumption) | assumption)
    have qz59 : x18_5 < (x10_1.length : Int) := of_decide_eq_true (by first | (with_reducible assumption) | assumption)
    obtain ⟨adz59, ez59, hxz59_0⟩ := Kd.at_string (Kd.R_reads' HO_10.out).2.2 x18_5 pz59 qz59
    obtain rfl : adz53 = adz59 := (by injection ez59)
    replace pz59 := eq_true pz59
    replace qz59 := eq_true qz59
    refine start_ (n := 24) (S := fun w' => w'.cell? (adz53.add (x18_5).toNat) = some (.string (rdOf ByteArray.empty x10_1 x18_5)) ∧ w'.cell? (adz53.add (x18_5).toNat) = some (.string (rdOf ByteArray.empty x10_1 x18_5))) (ds := []) #[false, false, false, false, false, false, false, false, false, false, false, false, false, false, false, false, false, false, false, false, false, false, false, false] (by kernel_rfl) rfl rfl ⟨hxz53_0, hxz59_0⟩ (fun hHeld => ?_); refine with_tabW columbariumlaw08_IdealKeeps.tab25 columbariumlaw08_IdealKeeps.bits25 (fun HT_ HW_ => ?_)
    generalize wr.drew = w168 at HO_10 HO_11 HO_z15002 HO_z15003 BKz14 BKz16 HB hxz53_0 hxz59_0 hHeld ⊢
    refine pu_ 0 (some 119) HT_ rfl rfl (by kernel_rfl) (fun _ _ _ h => h) (.inl ⟨by rfl, by intro w'; go_simp; with_reducible rfl⟩) (by simp only [Act.put, sa_, s0_, s1_, i64_w, i32_w]; rfl) ?_
    refine pu_ 1 (some 120) HT_ rfl rfl (by kernel_rfl) (fun _ _ _ h => h) (.inl ⟨by rfl, by intro w'; go_simp; with_reducible rfl⟩) (by simp only [Act.put, sa_, s0_, s1_, i64_w, i32_w]; rfl) ?_
    refine pu_ 2 (some 121) HT_ rfl rfl (by kernel_rfl) (fun _ _ _ h => h) (.inl ⟨by rfl, by intro w'; go_simp; with_reducible rfl⟩) (by simp only [Act.put, sa_, s0_, s1_, i64_w, i32_w]; rfl) ?_
    refine pu_ 5 (some 124) HT_ rfl rfl (by kernel_rfl) (fun _ _ _ h => h) (.inl ⟨by rfl, by intro w'; go_simp; with_reducible rfl⟩) (by simp only [Act.put, sa_, s0_, s1_, i64_w, i32_w]; rfl) ?_
    refine tk_ 3 (some 122) HT_ HW_ rfl rfl (by kernel_rfl) (fun _ _ _ h => h) (.inl ⟨by rfl, by rintro w' ⟨s0, s1⟩; go_simp; with_reducible rfl⟩) hHeld (by simp only [Act.put, sa_, s0_, s1_, i64_w, i32_w]; rfl) ?_
    refine tk_ 4 (some 123) HT_ HW_ rfl rfl (by kernel_rfl) (fun _ _ _ h => h) (.inl ⟨by rfl, by rintro w' ⟨s0, s1⟩; go_simp; with_reducible rfl⟩) hHeld (by simp only [Act.put, sa_, s0_, s1_, i64_w, i32_w]; rfl) ?_
    refine tk_ 6 (some 125) HT_ HW_ rfl rfl (by kernel_rfl) (fun _ _ _ h => h) (.inl ⟨by rfl, by rintro w' ⟨s0, s1⟩; go_simp; with_reducible rfl⟩) hHeld (by simp only [Act.put, sa_, s0_, s1_, i64_w, i32_w]; rfl) ?_
    refine pu_ 7 (some 126) HT_ rfl rfl (by kernel_rfl) (fun _ _ _ h => h) (.inl ⟨by rfl, by intro w'; go_simp; with_reducible rfl⟩) (by simp only [Act.put, sa_, s0_, s1_, i64_w, i32_w]; rfl) ?_
    refine pu_ 8 (some 127) HT_ rfl rfl (by kernel_rfl) (fun _ _ _ h => h) (.inl ⟨by rfl, by intro w'; go_simp; with_reducible rfl⟩) (by simp only [Act.put, sa_, s0_, s1_, i64_w, i32_w]; rfl) ?_
    refine pu_ 9 (some 128) HT_ rfl rfl (by kernel_rfl) (fun _ _ _ h => h) (.inl ⟨by rfl, by intro w'; go_simp; with_reducible rfl⟩) (by simp only [Act.put, sa_, s0_, s1_, i64_w, i32_w]; rfl) ?_
    refine tk_ 10 (some 129) HT_ HW_ rfl rfl (by kernel_rfl) (fun _ _ _ h => h) (.inl ⟨by rfl, by rintro w' ⟨s0, s1⟩; go_simp; with_reducible rfl⟩) hHeld (by simp only [Act.put, sa_, s0_, s1_, i64_w, i32_w]; rfl) ?_
    refine pu_ 11 (some 130) HT_ rfl rfl (by kernel_rfl) (fun _ _ _ h => h) (.inl ⟨by rfl, by intro w'; go_simp; with_reducible rfl⟩) (by simp only [Act.put, sa_, s0_, s1_, i64_w, i32_w]; rfl) ?_
    refine pu_ 12 (some 131) HT_ rfl rfl (by kernel_rfl) (fun _ _ _ h => h) (.inl ⟨by rfl, by intro w'; go_simp; with_reducible rfl⟩) (by simp only [Act.put, sa_, s0_, s1_, i64_w, i32_w]; rfl) ?_
    refine pu_ 13 (some 132) HT_ rfl rfl (by kernel_rfl) (fun _ _ _ h => h) (.inl ⟨by rfl, by intro w'; go_simp; with_reducible rfl⟩) (by simp only [Act.put, sa_, s0_, s1_, i64_w, i32_w]; rfl) ?_
    refine pu_ 14 (some 133) HT_ rfl rfl (by kernel_rfl) (fun _ _ _ h => h) (.inl ⟨by rfl, by intro w'; go_simp; with_reducible rfl⟩) (by simp only [Act.put, sa_, s0_, s1_, i64_w, i32_w]; rfl) ?_
    refine pu_ 15 (some 134) HT_ rfl rfl (by kernel_rfl) (fun _ _ _ h => h) (.inl ⟨by rfl, by intro w'; go_simp; with_reducible rfl⟩) (by simp only [Act.put, sa_, s0_, s1_, i64_w, i32_w]; rfl) ?_
    refine pu_ 18 (some 137) HT_ rfl rfl (by kernel_rfl) (fun _ _ _ h => h) (.inl ⟨by rfl, by intro w'; go_simp; with_reducible rfl⟩) (by simp only [Act.put, sa_, s0_, s1_, i64_w, i32_w]; rfl) ?_
    refine pu_ 19 (some 138) HT_ rfl rfl (by kernel_rfl) (fun _ _ _ h => h) (.inl ⟨by rfl, by intro w'; go_simp; with_reducible rfl⟩) (by simp only [Act.put, sa_, s0_, s1_, i64_w, i32_w]; rfl) ?_
    refine tk_ 16 (some 135) HT_ HW_ rfl rfl (by kernel_rfl) (fun _ _ _ h => h) (.inl ⟨by rfl, by rintro w' ⟨s0, s1⟩; go_simp; with_reducible rfl⟩) hHeld (by simp only [Act.put, sa_, s0_, s1_, i64_w, i32_w]; rfl) ?_
    refine pu_ 17 (some 136) HT_ rfl rfl (by kernel_rfl) (fun _ _ _ h => h) (.inl ⟨by rfl, by intro w'; go_simp; with_reducible rfl⟩) (by simp only [Act.put, sa_, s0_, s1_, i64_w, i32_w]; rfl) ?_
    refine pu_ 20 (some 139) HT_ rfl rfl (by kernel_rfl) (fun _ _ _ h => h) (.inl ⟨by rfl, by intro w'; go_simp; with_reducible rfl⟩) (by simp only [Act.put, sa_, s0_, s1_, i64_w, i32_w]; rfl) ?_
    refine pu_ 21 (some 140) HT_ rfl rfl (by kernel_rfl) (fun _ _ _ h => h) (.inl ⟨by rfl, by intro w'; go_simp; with_reducible rfl⟩) (by simp only [Act.put, sa_, s0_, s1_, i64_w, i32_w]; rfl) ?_
    refine pu_ 22 (some 141) HT_ rfl rfl (by kernel_rfl) (fun _ _ _ h => h) (.inl ⟨by rfl, by intro w'; go_simp; with_reducible rfl⟩) (by simp only [Act.put, sa_, s0_, s1_, i64_w, i32_w]; rfl) ?_
    refine pu_ 23 (some 19) HT_ rfl rfl (by kernel_rfl) (fun _ _ _ h => h) (.inl ⟨by rfl, by intro w'; go_simp; with_reducible rfl⟩) (by simp only [Act.put, sa_, s0_, s1_, i64_w, i32_w]; rfl) ?_
    refine done_ (done_of HT_.out (by kernel_rfl)) ?_
    have pz60 : 0 ≤ (x18_5 : Int) := of_decide_eq_true (by first | (with_reducible assumption) | assumption)
    have qz60 : x18_5 < (x10_1.length : Int) := of_decide_eq_true (by first | (with_reducible assumption) | assumption)
    obtain ⟨adz60, ez60, hxz60_0⟩ := Kd.at_string (Kd.R_reads' HO_10.out).2.2 x18_5 pz60 qz60
    obtain rfl : adz53 = adz60 := (by injection ez60)
    replace pz60 := eq_true pz60
    replace qz60 := eq_true qz60
    have pz63 : 0 ≤ (x18_5 : Int) := of_decide_eq_true (by first | (with_reducible assumption) | assumption)
    have qz63 : x18_5 < (x10_1.length : Int) := of_decide_eq_true (by first | (with_reducible assumption) | assumption)
    obtain ⟨adz63, ez63, hxz63_0⟩ := Kd.at_string (Kd.R_reads' HO_10.out).2.2 x18_5 pz63 qz63
    obtain rfl : adz53 = adz63 := (by injection ez63)
    replace pz63 := eq_true pz63
    replace qz63 := eq_true qz63
    try go_wp2
    go_roundg k5
    case measure => have := HK1.out; have := HJ14.out; have := HJ23.out; have := HJ107.out; have := HK5.out; omega
    case rel => exact ⟨(wrap64 (x18_5 + 1)), (by first | rfl | (simp; done) | (simp [*]; done)), H', ⟨by have := HK1.out; have := HJ14.out; have := HJ23.out; have := HJ107.out; have := HK5.out; omega⟩, ⟨by (with_reducible repeat (first | apply Kd.R_alloc | apply Kd.R_drewN | apply Kd.R_drew)); exact HO_10.out⟩, ⟨by (with_reducible repeat (first | apply Kd.R_alloc | apply Kd.R_drewN | apply Kd.R_drew)); exact HO_11.out⟩, ⟨by (with_reducible repeat (first | apply Kd.R_alloc | apply Kd.R_drewN | apply Kd.R_drew)); exact HO_z15002.out⟩, ⟨by (with_reducible repeat (first | apply Kd.R_alloc | apply Kd.R_drewN | apply Kd.R_drew)); exact HO_z15003.out⟩, ⟨by (with_reducible repeat (first | refine blk_drewN ?_ _ | refine blk_drew ?_ | refine blk_alloc ?_ _)); exact BKz14.out⟩, ⟨by (with_reducible repeat (first | refine blk_drewN ?_ _ | refine blk_drew ?_ | refine blk_alloc ?_ _)); exact BKz16.out⟩, ⟨by repeat (first | (with_reducible first | exact HB.out | apply below_alloc | apply pw_below_drewN | apply below_drew1 | refine below_set ?_ GEz14.out | refine below_set ?_ GEz16.out) | exact HB.out)⟩⟩
   rw [if_pos c155] at H
   have c155b0 : ((sx145).toList == (sx148).toList) = true := beq_iff_eq.mpr c155
   have c155b1 : ((sx145).toList != (sx148).toList) = false := bne_eq_false_iff_eq.mpr c155
   clear c155
   by_cases c156 : x18_5 < (x11_1.length : Int)
   rotate_left
   ·rw [if_neg c156] at H
    exact absurd H (by simp)
   rw [if_pos c156] at H
   have c156b0 : decide (x18_5 < (x11_1.length : Int)) = true := decide_eq_true c156
   clear c156
   by_cases c157 : (rdOf ByteArray.empty x11_1 x18_5).toList = x15_23.toList
   rotate_left
   ·rw [if_neg c157] at H
    have c157b0 : ((rdOf ByteArray.empty x11_1 x18_5).toList == x15_23.toList) = false := beq_eq_false_iff_ne.mpr c157
    have c157b1 : ((rdOf ByteArray.empty x11_1 x18_5).toList != x15_23.toList) = true := bne_iff_ne.mpr c157
    have H' := am H
    clear H
    obtain ⟨Ao164, co164, eo164⟩ := Kd.R_slice HO_10.out
    subst eo164
    try go_wp2
    have n0_ := am (Kd.R_drew HO_10.out)
    have n1_ := am (Kd.R_drew HO_11.out)
    have n2_ := am (Kd.R_drew HO_z15002.out)
    have n3_ := am (Kd.R_drew HO_z15003.out)
    have n4_ := am (blk_drew BKz14.out)
    have n5_ := am (blk_drew BKz16.out)
    have n6_ := am (below_drew1 HB.out)
    clear HO_10 HO_11 HO_z15002 HO_z15003 BKz14 BKz16 HB; have HO_10 := n0_; have HO_11 := n1_; have HO_z15002 := n2_; have HO_z15003 := n3_; have BKz14 := n4_; have BKz16 := n5_; have HB := n6_; clear n0_ n1_ n2_ n3_ n4_ n5_ n6_
    have pz53 : 0 ≤ (x18_5 : Int) := of_decide_eq_true (by first | (with_reducible assumption) | assumption)
    have qz53 : x18_5 < (x10_1.length : Int) := of_decide_eq_true (by first | (with_reducible assumption) | assumption)
    obtain ⟨adz53, ez53, hxz53_0⟩ := Kd.at_string (Kd.R_reads' HO_10.out).2.2 x18_5 pz53 qz53
    cases ez53
    replace pz53 := eq_true pz53
    replace qz53 := eq_true qz53
    have p120 : 0 ≤ (0 : Int) := (by omega)
    have q120 : 0 < (rdOf ByteArray.empty x10_1 x18_5).size := (by have : (0 : Int) < ((rdOf ByteArray.empty x10_1 x18_5).size : Int) := of_decide_eq_true (by first | (with_reducible assumption) | assumption); omega)
    have hx120 : ∀ h : 0 < (rdOf ByteArray.empty x10_1 x18_5).size, (((rdOf ByteArray.empty x10_1 x18_5)[0]'h).toNat : Int) = bt (rdOf ByteArray.empty x10_1 x18_5) 0 := bt_at (rdOf ByteArray.empty x10_1 x18_5) 0
    clear p120
    have qi120 : (0 < ((rdOf ByteArray.empty x10_1 x18_5).size : Int)) = True := eq_true (of_decide_eq_true (by first | (with_reducible assumption) | assumption))
    replace q120 := eq_true q120
    have p122 : 0 ≤ (0 : Int) := (by omega)
    have q122 : 0 < x14_23.size := (by have : (0 : Int) < (x14_23.size : Int) := of_decide_eq_true (by first | (with_reducible assumption) | assumption); omega)
    have hx122 : ∀ h : 0 < x14_23.size, ((x14_23[0]'h).toNat : Int) = bt x14_23 0 := bt_at x14_23 0
    clear p122
    have qi122 : (0 < (x14_23.size : Int)) = True := eq_true (of_decide_eq_true (by first | (with_reducible assumption) | assumption))
    replace q122 := eq_true q122
    have p124 : 0 ≤ (0 : Int) := (by omega)
    have q124 : 0 < x14_23.size := (by have : (0 : Int) < (x14_23.size : Int) := of_decide_eq_true (by first | (with_reducible assumption) | assumption); omega)
    have hx124 : ∀ h : 0 < x14_23.size, ((x14_23[0]'h).toNat : Int) = bt x14_23 0 := bt_at x14_23 0
    clear p124
    have qi124 : (0 < (x14_23.size : Int)) = True := eq_true (of_decide_eq_true (by first | (with_reducible assumption) | assumption))
    replace q124 := eq_true q124
    have pz59 : 0 ≤ (x18_5 : Int) := of_decide_eq_true (by first | (with_reducible assumption) | assumption)
    have qz59 : x18_5 < (x10_1.length : Int) := of_decide_eq_true (by first | (with_reducible assumption) | assumption)
    obtain ⟨adz59, ez59, hxz59_0⟩ := Kd.at_string (Kd.R_reads' HO_10.out).2.2 x18_5 pz59 qz59
    obtain rfl : adz53 = adz59 := (by injection ez59)
    replace pz59 := eq_true pz59
    replace qz59 := eq_true qz59
    refine start_ (n := 24) (S := fun w' => w'.cell? (adz53.add (x18_5).toNat) = some (.string (rdOf ByteArray.empty x10_1 x18_5)) ∧ w'.cell? (adz53.add (x18_5).toNat) = some (.string (rdOf ByteArray.empty x10_1 x18_5))) (ds := []) #[false, false, false, false, false, false, false, false, false, false, false, false, false, false, false, false, false, false, false, false, false, false, false, false] (by kernel_rfl) rfl rfl ⟨hxz53_0, hxz59_0⟩ (fun hHeld => ?_); refine with_tabW columbariumlaw08_IdealKeeps.tab25 columbariumlaw08_IdealKeeps.bits25 (fun HT_ HW_ => ?_)
    generalize wr.drew = w165 at HO_10 HO_11 HO_z15002 HO_z15003 BKz14 BKz16 HB hxz53_0 hxz59_0 hHeld ⊢
    refine pu_ 0 (some 119) HT_ rfl rfl (by kernel_rfl) (fun _ _ _ h => h) (.inl ⟨by rfl, by intro w'; go_simp; with_reducible rfl⟩) (by simp only [Act.put, sa_, s0_, s1_, i64_w, i32_w]; rfl) ?_
    refine pu_ 1 (some 120) HT_ rfl rfl (by kernel_rfl) (fun _ _ _ h => h) (.inl ⟨by rfl, by intro w'; go_simp; with_reducible rfl⟩) (by simp only [Act.put, sa_, s0_, s1_, i64_w, i32_w]; rfl) ?_
    refine pu_ 2 (some 121) HT_ rfl rfl (by kernel_rfl) (fun _ _ _ h => h) (.inl ⟨by rfl, by intro w'; go_simp; with_reducible rfl⟩) (by simp only [Act.put, sa_, s0_, s1_, i64_w, i32_w]; rfl) ?_
    refine pu_ 5 (some 124) HT_ rfl rfl (by kernel_rfl) (fun _ _ _ h => h) (.inl ⟨by rfl, by intro w'; go_simp; with_reducible rfl⟩) (by simp only [Act.put, sa_, s0_, s1_, i64_w, i32_w]; rfl) ?_
    refine tk_ 3 (some 122) HT_ HW_ rfl rfl (by kernel_rfl) (fun _ _ _ h => h) (.inl ⟨by rfl, by rintro w' ⟨s0, s1⟩; go_simp; with_reducible rfl⟩) hHeld (by simp only [Act.put, sa_, s0_, s1_, i64_w, i32_w]; rfl) ?_
    refine tk_ 4 (some 123) HT_ HW_ rfl rfl (by kernel_rfl) (fun _ _ _ h => h) (.inl ⟨by rfl, by rintro w' ⟨s0, s1⟩; go_simp; with_reducible rfl⟩) hHeld (by simp only [Act.put, sa_, s0_, s1_, i64_w, i32_w]; rfl) ?_
    refine tk_ 6 (some 125) HT_ HW_ rfl rfl (by kernel_rfl) (fun _ _ _ h => h) (.inl ⟨by rfl, by rintro w' ⟨s0, s1⟩; go_simp; with_reducible rfl⟩) hHeld (by simp only [Act.put, sa_, s0_, s1_, i64_w, i32_w]; rfl) ?_
    refine pu_ 7 (some 126) HT_ rfl rfl (by kernel_rfl) (fun _ _ _ h => h) (.inl ⟨by rfl, by intro w'; go_simp; with_reducible rfl⟩) (by simp only [Act.put, sa_, s0_, s1_, i64_w, i32_w]; rfl) ?_
    refine pu_ 8 (some 127) HT_ rfl rfl (by kernel_rfl) (fun _ _ _ h => h) (.inl ⟨by rfl, by intro w'; go_simp; with_reducible rfl⟩) (by simp only [Act.put, sa_, s0_, s1_, i64_w, i32_w]; rfl) ?_
    refine pu_ 9 (some 128) HT_ rfl rfl (by kernel_rfl) (fun _ _ _ h => h) (.inl ⟨by rfl, by intro w'; go_simp; with_reducible rfl⟩) (by simp only [Act.put, sa_, s0_, s1_, i64_w, i32_w]; rfl) ?_
    refine tk_ 10 (some 129) HT_ HW_ rfl rfl (by kernel_rfl) (fun _ _ _ h => h) (.inl ⟨by rfl, by rintro w' ⟨s0, s1⟩; go_simp; with_reducible rfl⟩) hHeld (by simp only [Act.put, sa_, s0_, s1_, i64_w, i32_w]; rfl) ?_
    refine pu_ 11 (some 130) HT_ rfl rfl (by kernel_rfl) (fun _ _ _ h => h) (.inl ⟨by rfl, by intro w'; go_simp; with_reducible rfl⟩) (by simp only [Act.put, sa_, s0_, s1_, i64_w, i32_w]; rfl) ?_
    refine pu_ 12 (some 131) HT_ rfl rfl (by kernel_rfl) (fun _ _ _ h => h) (.inl ⟨by rfl, by intro w'; go_simp; with_reducible rfl⟩) (by simp only [Act.put, sa_, s0_, s1_, i64_w, i32_w]; rfl) ?_
    refine pu_ 13 (some 132) HT_ rfl rfl (by kernel_rfl) (fun _ _ _ h => h) (.inl ⟨by rfl, by intro w'; go_simp; with_reducible rfl⟩) (by simp only [Act.put, sa_, s0_, s1_, i64_w, i32_w]; rfl) ?_
    refine pu_ 14 (some 133) HT_ rfl rfl (by kernel_rfl) (fun _ _ _ h => h) (.inl ⟨by rfl, by intro w'; go_simp; with_reducible rfl⟩) (by simp only [Act.put, sa_, s0_, s1_, i64_w, i32_w]; rfl) ?_
    refine pu_ 15 (some 134) HT_ rfl rfl (by kernel_rfl) (fun _ _ _ h => h) (.inl ⟨by rfl, by intro w'; go_simp; with_reducible rfl⟩) (by simp only [Act.put, sa_, s0_, s1_, i64_w, i32_w]; rfl) ?_
    refine pu_ 18 (some 137) HT_ rfl rfl (by kernel_rfl) (fun _ _ _ h => h) (.inl ⟨by rfl, by intro w'; go_simp; with_reducible rfl⟩) (by simp only [Act.put, sa_, s0_, s1_, i64_w, i32_w]; rfl) ?_
    refine pu_ 19 (some 138) HT_ rfl rfl (by kernel_rfl) (fun _ _ _ h => h) (.inl ⟨by rfl, by intro w'; go_simp; with_reducible rfl⟩) (by simp only [Act.put, sa_, s0_, s1_, i64_w, i32_w]; rfl) ?_
    refine tk_ 16 (some 135) HT_ HW_ rfl rfl (by kernel_rfl) (fun _ _ _ h => h) (.inl ⟨by rfl, by rintro w' ⟨s0, s1⟩; go_simp; with_reducible rfl⟩) hHeld (by simp only [Act.put, sa_, s0_, s1_, i64_w, i32_w]; rfl) ?_
    refine pu_ 17 (some 136) HT_ rfl rfl (by kernel_rfl) (fun _ _ _ h => h) (.inl ⟨by rfl, by intro w'; go_simp; with_reducible rfl⟩) (by simp only [Act.put, sa_, s0_, s1_, i64_w, i32_w]; rfl) ?_
    refine pu_ 20 (some 139) HT_ rfl rfl (by kernel_rfl) (fun _ _ _ h => h) (.inl ⟨by rfl, by intro w'; go_simp; with_reducible rfl⟩) (by simp only [Act.put, sa_, s0_, s1_, i64_w, i32_w]; rfl) ?_
    refine pu_ 21 (some 140) HT_ rfl rfl (by kernel_rfl) (fun _ _ _ h => h) (.inl ⟨by rfl, by intro w'; go_simp; with_reducible rfl⟩) (by simp only [Act.put, sa_, s0_, s1_, i64_w, i32_w]; rfl) ?_
    refine pu_ 22 (some 141) HT_ rfl rfl (by kernel_rfl) (fun _ _ _ h => h) (.inl ⟨by rfl, by intro w'; go_simp; with_reducible rfl⟩) (by simp only [Act.put, sa_, s0_, s1_, i64_w, i32_w]; rfl) ?_
    refine pu_ 23 (some 19) HT_ rfl rfl (by kernel_rfl) (fun _ _ _ h => h) (.inl ⟨by rfl, by intro w'; go_simp; with_reducible rfl⟩) (by simp only [Act.put, sa_, s0_, s1_, i64_w, i32_w]; rfl) ?_
    refine done_ (done_of HT_.out (by kernel_rfl)) ?_
    have pz60 : 0 ≤ (x18_5 : Int) := of_decide_eq_true (by first | (with_reducible assumption) | assumption)
    have qz60 : x18_5 < (x10_1.length : Int) := of_decide_eq_true (by first | (with_reducible assumption) | assumption)
    obtain ⟨adz60, ez60, hxz60_0⟩ := Kd.at_string (Kd.R_reads' HO_10.out).2.2 x18_5 pz60 qz60
    obtain rfl : adz53 = adz60 := (by injection ez60)
    replace pz60 := eq_true pz60
    replace qz60 := eq_true qz60
    have pz63 : 0 ≤ (x18_5 : Int) := of_decide_eq_true (by first | (with_reducible assumption) | assumption)
    have qz63 : x18_5 < (x10_1.length : Int) := of_decide_eq_true (by first | (with_reducible assumption) | assumption)
    obtain ⟨adz63, ez63, hxz63_0⟩ := Kd.at_string (Kd.R_reads' HO_10.out).2.2 x18_5 pz63 qz63
    obtain rfl : adz53 = adz63 := (by injection ez63)
    replace pz63 := eq_true pz63
    replace qz63 := eq_true qz63
    obtain ⟨Ao166, co166, eo166⟩ := Kd.R_slice HO_11.out
    subst eo166
    have pz64 : 0 ≤ (x18_5 : Int) := of_decide_eq_true (by first | (with_reducible assumption) | assumption)
    have qz64 : x18_5 < (x11_1.length : Int) := of_decide_eq_true (by first | (with_reducible assumption) | assumption)
    obtain ⟨adz64, ez64, hxz64_0⟩ := Kd.at_string (Kd.R_reads' HO_11.out).2.2 x18_5 pz64 qz64
    cases ez64
    replace pz64 := eq_true pz64
    replace qz64 := eq_true qz64
    try go_wp2
    go_roundg k5
    case measure => have := HK1.out; have := HJ14.out; have := HJ23.out; have := HJ107.out; have := HK5.out; omega
    case rel => exact ⟨(wrap64 (x18_5 + 1)), (by first | rfl | (simp; done) | (simp [*]; done)), H', ⟨by have := HK1.out; have := HJ14.out; have := HJ23.out; have := HJ107.out; have := HK5.out; omega⟩, ⟨by (with_reducible repeat (first | apply Kd.R_alloc | apply Kd.R_drewN | apply Kd.R_drew)); exact HO_10.out⟩, ⟨by (with_reducible repeat (first | apply Kd.R_alloc | apply Kd.R_drewN | apply Kd.R_drew)); exact HO_11.out⟩, ⟨by (with_reducible repeat (first | apply Kd.R_alloc | apply Kd.R_drewN | apply Kd.R_drew)); exact HO_z15002.out⟩, ⟨by (with_reducible repeat (first | apply Kd.R_alloc | apply Kd.R_drewN | apply Kd.R_drew)); exact HO_z15003.out⟩, ⟨by (with_reducible repeat (first | refine blk_drewN ?_ _ | refine blk_drew ?_ | refine blk_alloc ?_ _)); exact BKz14.out⟩, ⟨by (with_reducible repeat (first | refine blk_drewN ?_ _ | refine blk_drew ?_ | refine blk_alloc ?_ _)); exact BKz16.out⟩, ⟨by repeat (first | (with_reducible first | exact HB.out | apply below_alloc | apply pw_below_drewN | apply below_drew1 | refine below_set ?_ GEz14.out | refine below_set ?_ GEz16.out) | exact HB.out)⟩⟩
   as_aux_lemma =>
    rw [if_pos c157] at H
    have c157b0 : ((rdOf ByteArray.empty x11_1 x18_5).toList == x15_23.toList) = true := beq_iff_eq.mpr c157
    have c157b1 : ((rdOf ByteArray.empty x11_1 x18_5).toList != x15_23.toList) = false := bne_eq_false_iff_eq.mpr c157
    clear c157
    by_cases c158 : xz15004_23 = true
    rotate_left
    ·replace c158 := Bool.eq_false_iff.mpr c158
     subst c158
     have H1 : (none) = some r := by rw [if_neg (show ¬ (false = true) by decide)] at H; exact H
     clear H
     have H := H1
     clear H1
     exact absurd H (by simp)
    subst c158
    have H1 : (columbariumlaw08_IdealKeeps.l1 k5 l2 tz1 x10_1 x11_1 x12_1 x14_23 x15_23 (wrap64 (x18_5 + 1)) xz15000_23 xz15001_23 xz15002_23 xz15003_23 true) = some r := by rw [if_pos rfl] at H; exact H
    clear H
    have H := H1
    clear H1
    have H' := am H
    clear H
    obtain ⟨Ao159, co159, eo159⟩ := Kd.R_slice HO_10.out
    subst eo159
    try go_wp2
    have n0_ := am (Kd.R_drew HO_10.out)
    have n1_ := am (Kd.R_drew HO_11.out)
    have n2_ := am (Kd.R_drew HO_z15002.out)
    have n3_ := am (Kd.R_drew HO_z15003.out)
    have n4_ := am (blk_drew BKz14.out)
    have n5_ := am (blk_drew BKz16.out)
    have n6_ := am (below_drew1 HB.out)
    clear HO_10 HO_11 HO_z15002 HO_z15003 BKz14 BKz16 HB; have HO_10 := n0_; have HO_11 := n1_; have HO_z15002 := n2_; have HO_z15003 := n3_; have BKz14 := n4_; have BKz16 := n5_; have HB := n6_; clear n0_ n1_ n2_ n3_ n4_ n5_ n6_
    have pz53 : 0 ≤ (x18_5 : Int) := of_decide_eq_true (by first | (with_reducible assumption) | assumption)
    have qz53 : x18_5 < (x10_1.length : Int) := of_decide_eq_true (by first | (with_reducible assumption) | assumption)
    obtain ⟨adz53, ez53, hxz53_0⟩ := Kd.at_string (Kd.R_reads' HO_10.out).2.2 x18_5 pz53 qz53
    cases ez53
    replace pz53 := eq_true pz53
    replace qz53 := eq_true qz53
    have p120 : 0 ≤ (0 : Int) := (by omega)
    have q120 : 0 < (rdOf ByteArray.empty x10_1 x18_5).size := (by have : (0 : Int) < ((rdOf ByteArray.empty x10_1 x18_5).size : Int) := of_decide_eq_true (by first | (with_reducible assumption) | assumption); omega)
    have hx120 : ∀ h : 0 < (rdOf ByteArray.empty x10_1 x18_5).size, (((rdOf ByteArray.empty x10_1 x18_5)[0]'h).toNat : Int) = bt (rdOf ByteArray.empty x10_1 x18_5) 0 := bt_at (rdOf ByteArray.empty x10_1 x18_5) 0
    clear p120
    have qi120 : (0 < ((rdOf ByteArray.empty x10_1 x18_5).size : Int)) = True := eq_true (of_decide_eq_true (by first | (with_reducible assumption) | assumption))
    replace q120 := eq_true q120
    have p122 : 0 ≤ (0 : Int) := (by omega)
    have q122 : 0 < x14_23.size := (by have : (0 : Int) < (x14_23.size : Int) := of_decide_eq_true (by first | (with_reducible assumption) | assumption); omega)
    have hx122 : ∀ h : 0 < x14_23.size, ((x14_23[0]'h).toNat : Int) = bt x14_23 0 := bt_at x14_23 0
    clear p122
    have qi122 : (0 < (x14_23.size : Int)) = True := eq_true (of_decide_eq_true (by first | (with_reducible assumption) | assumption))
    replace q122 := eq_true q122
    have p124 : 0 ≤ (0 : Int) := (by omega)
    have q124 : 0 < x14_23.size := (by have : (0 : Int) < (x14_23.size : Int) := of_decide_eq_true (by first | (with_reducible assumption) | assumption); omega)
    have hx124 : ∀ h : 0 < x14_23.size, ((x14_23[0]'h).toNat : Int) = bt x14_23 0 := bt_at x14_23 0
    clear p124
    have qi124 : (0 < (x14_23.size : Int)) = True := eq_true (of_decide_eq_true (by first | (with_reducible assumption) | assumption))
    replace q124 := eq_true q124
    have pz59 : 0 ≤ (x18_5 : Int) := of_decide_eq_true (by first | (with_reducible assumption) | assumption)
    have qz59 : x18_5 < (x10_1.length : Int) := of_decide_eq_true (by first | (with_reducible assumption) | assumption)
    obtain ⟨adz59, ez59, hxz59_0⟩ := Kd.at_string (Kd.R_reads' HO_10.out).2.2 x18_5 pz59 qz59
    obtain rfl : adz53 = adz59 := (by injection ez59)
    replace pz59 := eq_true pz59
    replace qz59 := eq_true qz59
    refine start_ (n := 24) (S := fun w' => w'.cell? (adz53.add (x18_5).toNat) = some (.string (rdOf ByteArray.empty x10_1 x18_5)) ∧ w'.cell? (adz53.add (x18_5).toNat) = some (.string (rdOf ByteArray.empty x10_1 x18_5))) (ds := []) #[false, false, false, false, false, false, false, false, false, false, false, false, false, false, false, false, false, false, false, false, false, false, false, false] (by kernel_rfl) rfl rfl ⟨hxz53_0, hxz59_0⟩ (fun hHeld => ?_); refine with_tabW columbariumlaw08_IdealKeeps.tab25 columbariumlaw08_IdealKeeps.bits25 (fun HT_ HW_ => ?_)
    generalize wr.drew = w160 at HO_10 HO_11 HO_z15002 HO_z15003 BKz14 BKz16 HB hxz53_0 hxz59_0 hHeld ⊢
    refine pu_ 0 (some 119) HT_ rfl rfl (by kernel_rfl) (fun _ _ _ h => h) (.inl ⟨by rfl, by intro w'; go_simp; with_reducible rfl⟩) (by simp only [Act.put, sa_, s0_, s1_, i64_w, i32_w]; rfl) ?_
    refine pu_ 1 (some 120) HT_ rfl rfl (by kernel_rfl) (fun _ _ _ h => h) (.inl ⟨by rfl, by intro w'; go_simp; with_reducible rfl⟩) (by simp only [Act.put, sa_, s0_, s1_, i64_w, i32_w]; rfl) ?_
    refine pu_ 2 (some 121) HT_ rfl rfl (by kernel_rfl) (fun _ _ _ h => h) (.inl ⟨by rfl, by intro w'; go_simp; with_reducible rfl⟩) (by simp only [Act.put, sa_, s0_, s1_, i64_w, i32_w]; rfl) ?_
    refine pu_ 5 (some 124) HT_ rfl rfl (by kernel_rfl) (fun _ _ _ h => h) (.inl ⟨by rfl, by intro w'; go_simp; with_reducible rfl⟩) (by simp only [Act.put, sa_, s0_, s1_, i64_w, i32_w]; rfl) ?_
    refine tk_ 3 (some 122) HT_ HW_ rfl rfl (by kernel_rfl) (fun _ _ _ h => h) (.inl ⟨by rfl, by rintro w' ⟨s0, s1⟩; go_simp; with_reducible rfl⟩) hHeld (by simp only [Act.put, sa_, s0_, s1_, i64_w, i32_w]; rfl) ?_
    refine tk_ 4 (some 123) HT_ HW_ rfl rfl (by kernel_rfl) (fun _ _ _ h => h) (.inl ⟨by rfl, by rintro w' ⟨s0, s1⟩; go_simp; with_reducible rfl⟩) hHeld (by simp only [Act.put, sa_, s0_, s1_, i64_w, i32_w]; rfl) ?_
    refine tk_ 6 (some 125) HT_ HW_ rfl rfl (by kernel_rfl) (fun _ _ _ h => h) (.inl ⟨by rfl, by rintro w' ⟨s0, s1⟩; go_simp; with_reducible rfl⟩) hHeld (by simp only [Act.put, sa_, s0_, s1_, i64_w, i32_w]; rfl) ?_
    refine pu_ 7 (some 126) HT_ rfl rfl (by kernel_rfl) (fun _ _ _ h => h) (.inl ⟨by rfl, by intro w'; go_simp; with_reducible rfl⟩) (by simp only [Act.put, sa_, s0_, s1_, i64_w, i32_w]; rfl) ?_
    refine pu_ 8 (some 127) HT_ rfl rfl (by kernel_rfl) (fun _ _ _ h => h) (.inl ⟨by rfl, by intro w'; go_simp; with_reducible rfl⟩) (by simp only [Act.put, sa_, s0_, s1_, i64_w, i32_w]; rfl) ?_
    refine pu_ 9 (some 128) HT_ rfl rfl (by kernel_rfl) (fun _ _ _ h => h) (.inl ⟨by rfl, by intro w'; go_simp; with_reducible rfl⟩) (by simp only [Act.put, sa_, s0_, s1_, i64_w, i32_w]; rfl) ?_
    refine tk_ 10 (some 129) HT_ HW_ rfl rfl (by kernel_rfl) (fun _ _ _ h => h) (.inl ⟨by rfl, by rintro w' ⟨s0, s1⟩; go_simp; with_reducible rfl⟩) hHeld (by simp only [Act.put, sa_, s0_, s1_, i64_w, i32_w]; rfl) ?_
    refine pu_ 11 (some 130) HT_ rfl rfl (by kernel_rfl) (fun _ _ _ h => h) (.inl ⟨by rfl, by intro w'; go_simp; with_reducible rfl⟩) (by simp only [Act.put, sa_, s0_, s1_, i64_w, i32_w]; rfl) ?_
    refine pu_ 12 (some 131) HT_ rfl rfl (by kernel_rfl) (fun _ _ _ h => h) (.inl ⟨by rfl, by intro w'; go_simp; with_reducible rfl⟩) (by simp only [Act.put, sa_, s0_, s1_, i64_w, i32_w]; rfl) ?_
    refine pu_ 13 (some 132) HT_ rfl rfl (by kernel_rfl) (fun _ _ _ h => h) (.inl ⟨by rfl, by intro w'; go_simp; with_reducible rfl⟩) (by simp only [Act.put, sa_, s0_, s1_, i64_w, i32_w]; rfl) ?_
    refine pu_ 14 (some 133) HT_ rfl rfl (by kernel_rfl) (fun _ _ _ h => h) (.inl ⟨by rfl, by intro w'; go_simp; with_reducible rfl⟩) (by simp only [Act.put, sa_, s0_, s1_, i64_w, i32_w]; rfl) ?_
    refine pu_ 15 (some 134) HT_ rfl rfl (by kernel_rfl) (fun _ _ _ h => h) (.inl ⟨by rfl, by intro w'; go_simp; with_reducible rfl⟩) (by simp only [Act.put, sa_, s0_, s1_, i64_w, i32_w]; rfl) ?_
    refine pu_ 18 (some 137) HT_ rfl rfl (by kernel_rfl) (fun _ _ _ h => h) (.inl ⟨by rfl, by intro w'; go_simp; with_reducible rfl⟩) (by simp only [Act.put, sa_, s0_, s1_, i64_w, i32_w]; rfl) ?_
    refine pu_ 19 (some 138) HT_ rfl rfl (by kernel_rfl) (fun _ _ _ h => h) (.inl ⟨by rfl, by intro w'; go_simp; with_reducible rfl⟩) (by simp only [Act.put, sa_, s0_, s1_, i64_w, i32_w]; rfl) ?_
    refine tk_ 16 (some 135) HT_ HW_ rfl rfl (by kernel_rfl) (fun _ _ _ h => h) (.inl ⟨by rfl, by rintro w' ⟨s0, s1⟩; go_simp; with_reducible rfl⟩) hHeld (by simp only [Act.put, sa_, s0_, s1_, i64_w, i32_w]; rfl) ?_
    refine pu_ 17 (some 136) HT_ rfl rfl (by kernel_rfl) (fun _ _ _ h => h) (.inl ⟨by rfl, by intro w'; go_simp; with_reducible rfl⟩) (by simp only [Act.put, sa_, s0_, s1_, i64_w, i32_w]; rfl) ?_
    refine pu_ 20 (some 139) HT_ rfl rfl (by kernel_rfl) (fun _ _ _ h => h) (.inl ⟨by rfl, by intro w'; go_simp; with_reducible rfl⟩) (by simp only [Act.put, sa_, s0_, s1_, i64_w, i32_w]; rfl) ?_
    refine pu_ 21 (some 140) HT_ rfl rfl (by kernel_rfl) (fun _ _ _ h => h) (.inl ⟨by rfl, by intro w'; go_simp; with_reducible rfl⟩) (by simp only [Act.put, sa_, s0_, s1_, i64_w, i32_w]; rfl) ?_
    refine pu_ 22 (some 141) HT_ rfl rfl (by kernel_rfl) (fun _ _ _ h => h) (.inl ⟨by rfl, by intro w'; go_simp; with_reducible rfl⟩) (by simp only [Act.put, sa_, s0_, s1_, i64_w, i32_w]; rfl) ?_
    refine pu_ 23 (some 19) HT_ rfl rfl (by kernel_rfl) (fun _ _ _ h => h) (.inl ⟨by rfl, by intro w'; go_simp; with_reducible rfl⟩) (by simp only [Act.put, sa_, s0_, s1_, i64_w, i32_w]; rfl) ?_
    refine done_ (done_of HT_.out (by kernel_rfl)) ?_
    have pz60 : 0 ≤ (x18_5 : Int) := of_decide_eq_true (by first | (with_reducible assumption) | assumption)
    have qz60 : x18_5 < (x10_1.length : Int) := of_decide_eq_true (by first | (with_reducible assumption) | assumption)
    obtain ⟨adz60, ez60, hxz60_0⟩ := Kd.at_string (Kd.R_reads' HO_10.out).2.2 x18_5 pz60 qz60
    obtain rfl : adz53 = adz60 := (by injection ez60)
    replace pz60 := eq_true pz60
    replace qz60 := eq_true qz60
    have pz63 : 0 ≤ (x18_5 : Int) := of_decide_eq_true (by first | (with_reducible assumption) | assumption)
    have qz63 : x18_5 < (x10_1.length : Int) := of_decide_eq_true (by first | (with_reducible assumption) | assumption)
    obtain ⟨adz63, ez63, hxz63_0⟩ := Kd.at_string (Kd.R_reads' HO_10.out).2.2 x18_5 pz63 qz63
    obtain rfl : adz53 = adz63 := (by injection ez63)
    replace pz63 := eq_true pz63
    replace qz63 := eq_true qz63
    obtain ⟨Ao161, co161, eo161⟩ := Kd.R_slice HO_11.out
    subst eo161
    have pz64 : 0 ≤ (x18_5 : Int) := of_decide_eq_true (by first | (with_reducible assumption) | assumption)
    have qz64 : x18_5 < (x11_1.length : Int) := of_decide_eq_true (by first | (with_reducible assumption) | assumption)
    obtain ⟨adz64, ez64, hxz64_0⟩ := Kd.at_string (Kd.R_reads' HO_11.out).2.2 x18_5 pz64 qz64
    cases ez64
    replace pz64 := eq_true pz64
    replace qz64 := eq_true qz64
    have hnb162 := NBz14_z16.out
    have hnc162 := NBz16_z14.out
    have hcz163_0 : w160.cell? ⟨gbz14, 0, none⟩ = some (.string xz15000_23) := (blk_cell BKz14.out 0).trans rfl
    have hcz163_1 : w160.cell? ⟨gbz14, 1, none⟩ = some (.int .i64 xz15001_23) := (blk_cell BKz14.out 1).trans rfl
    have hcz163_2 : w160.cell? ⟨gbz14, 2, none⟩ = some (uz15002) := (blk_cell BKz14.out 2).trans rfl
    have hcz163_3 : w160.cell? ⟨gbz14, 3, none⟩ = some (uz15003) := (blk_cell BKz14.out 3).trans rfl
    have hcz163_4 : w160.cell? ⟨gbz14, 4, none⟩ = some (.bool true) := (blk_cell BKz14.out 4).trans rfl
    have hfz163_0 := blk_frozen BKz14.out 0
    have hfz163_1 := blk_frozen BKz14.out 1
    have hfz163_2 := blk_frozen BKz14.out 2
    have hfz163_3 := blk_frozen BKz14.out 3
    have hfz163_4 := blk_frozen BKz14.out 4
    try go_wp2
    go_roundg k5
    case measure => have := HK1.out; have := HJ14.out; have := HJ23.out; have := HJ107.out; have := HK5.out; omega
    case rel => exact ⟨(wrap64 (x18_5 + 1)), (by first | rfl | (simp; done) | (simp [*]; done)), H', ⟨by have := HK1.out; have := HJ14.out; have := HJ23.out; have := HJ107.out; have := HK5.out; omega⟩, ⟨by (with_reducible repeat (first | apply Kd.R_alloc | apply Kd.R_drewN | apply Kd.R_drew)); exact HO_10.out⟩, ⟨by (with_reducible repeat (first | apply Kd.R_alloc | apply Kd.R_drewN | apply Kd.R_drew)); exact HO_11.out⟩, ⟨by (with_reducible repeat (first | apply Kd.R_alloc | apply Kd.R_drewN | apply Kd.R_drew)); exact HO_z15002.out⟩, ⟨by (with_reducible repeat (first | apply Kd.R_alloc | apply Kd.R_drewN | apply Kd.R_drew)); exact HO_z15003.out⟩, ⟨by (with_reducible repeat (first | refine blk_drewN ?_ _ | refine blk_drew ?_ | refine blk_alloc ?_ _)); exact BKz14.out⟩, ⟨by (with_reducible repeat (first | refine blk_drewN ?_ _ | refine blk_drew ?_ | refine blk_alloc ?_ _)); exact BKz16.out⟩, ⟨by repeat (first | (with_reducible first | exact HB.out | apply below_alloc | apply pw_below_drewN | apply below_drew1 | refine below_set ?_ GEz14.out | refine below_set ?_ GEz16.out) | exact HB.out)⟩⟩
end Go.Proofs.Ytmkncddbecmlpaa.Pr
end
