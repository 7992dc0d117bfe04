-- Written by wip/tools/xprint.py, a patched run of the kit's print: not typed by hand.
import Derived.Test.YtmkncddbecmlpaaPr0
import Derived.Test.YtmkncddbecmlpaaPrFcolumbariumlaw07pick
namespace Go.Proofs.Ytmkncddbecmlpaa.Pr
open Go.RowKit Go.Proofs.YtmkncddbecmlpaaW.PrintWords Go.Proofs.YtmkncddbecmlpaaW.PrintLast Go.Proofs.YtmkncddbecmlpaaW.PrintMore
attribute [local go_sem] max2_int min2_int max_two min_two max_three min_three max_four min_four   -- for this text's walks alone
set_option linter.unusedVariables false
set_option linter.unusedSimpArgs false

/-! ### columbariumlaw07_Tape: function 15 -/
def columbariumlaw07_Tape.f (a0 : ByteArray) (a1 : Int) : Option (ByteArray × Int) := if 0 ≤ (mn (a0.size : Int) 500) then (if (mn (a0.size : Int) 500) ≤ (a0.size : Int) then ((columbariumlaw07_pick.f a1 (wrap64 (((a0.extract 0 ((mn (a0.size : Int) 500) : Int).toNat).size : Int) + 1))).bind fun t150002 => (some (a0.extract 0 ((mn (a0.size : Int) 500) : Int).toNat, t150002))) else (none)) else (none)
set_option maxHeartbeats 8000000 in
set_option maxRecDepth 100000 in
theorem columbariumlaw07_Tape.calls (a0 : ByteArray) (a1 : Int) (r1 : ByteArray) (r2 : Int) (w : World) (h : columbariumlaw07_Tape.f a0 a1 = some (r1, r2)) :
  Calls Try.prog 15 #[.string a0, .int .i64 a1] w fun e w' => e = .returned (.agg #[.string r1, .int .i64 r2]) ∧ Below w.heap.size w w' := by
 have hu23 := Try.underlying23
 have HB := Aside0.mk (Below.refl w.heap.size w)
 have H : (if 0 ≤ (mn (a0.size : Int) 500) then (if (mn (a0.size : Int) 500) ≤ (a0.size : Int) then ((columbariumlaw07_pick.f a1 (wrap64 (((a0.extract 0 ((mn (a0.size : Int) 500) : Int).toNat).size : Int) + 1))).bind fun t150002 => (some (a0.extract 0 ((mn (a0.size : Int) 500) : Int).toNat, t150002))) else (none)) else (none)) = some (r1, r2) := h
 clear h
 obtain ⟨ji3, hji3⟩ : ∃ j_ : Int, (mn (a0.size : Int) 500) = j_ := ⟨_, rfl⟩
 replace H : (if 0 ≤ (ji3) then (if (ji3) ≤ (a0.size : Int) then ((columbariumlaw07_pick.f a1 (wrap64 (((a0.extract 0 ((ji3) : Int).toNat).size : Int) + 1))).bind fun t150002 => (some (a0.extract 0 ((ji3) : Int).toNat, t150002))) else (none)) else (none)) = some (r1, r2) := by first | (rw [hji3] at H; exact H) | (simp only [hji3] at H ⊢; exact H)
 (try (have hji3h : ji3 ≤ 500 := by (rw [← hji3]; unfold mn; (repeat' split) <;> omega)))
 (try (have hji3g : ji3 ≤ 64 := by omega))
 (try (have hji3l : 0 ≤ ji3 := by (rw [← hji3]; unfold mn; (repeat' split) <;> omega)))
 (try (have hji3m : 0 ≤ ji3 := by omega))
 have hji3_ : (if 500 < (a0.size : Int) then 500 else (a0.size : Int)) = ji3 := hji3
 by_cases c4 : 0 ≤ (ji3)
 ·rw [if_pos c4] at H
  have c4b0 := eq_true c4
  have c4b1 : decide (0 ≤ (ji3)) = true := decide_eq_true c4
  clear c4
  by_cases c5 : (ji3) ≤ (a0.size : Int)
  ·rw [if_pos c5] at H
   have c5b0 := eq_true c5
   have c5b1 : decide ((ji3) ≤ (a0.size : Int)) = true := decide_eq_true c5
   clear c5
   obtain ⟨sx6, hsx6⟩ : ∃ s_ : ByteArray, (a0.extract 0 ((ji3) : Int).toNat) = s_ := ⟨_, rfl⟩
   replace H : ((columbariumlaw07_pick.f a1 (wrap64 (((sx6).size : Int) + 1))).bind fun t150002 => (some (sx6, t150002))) = some (r1, r2) := by first | (rw [hsx6] at H; exact H) | (simp only [hsx6] at H ⊢; exact H) | exact H
   replace H := Option.bind_eq_some_iff.mp H
   obtain ⟨t150002, A70, H⟩ := H
   replace H : (some (sx6, t150002)) = some (r1, r2) := H
   have A7 := Aside0.mk A70
   clear A70
   simp only [Option.some.injEq, Prod.mk.injEq] at H
   obtain ⟨rfl, rfl⟩ := H
   go_enter Try.func15, Try.ntmps15
   go_wp2_with (first | ((with_reducible refine gate_dst (N := 4) rfl ?_); refine box_event ?hg (N := 4) ?hd (cs := #[.string (⟨#[]⟩ : ByteArray), .int .i64 0]) (t := 23) ?hr ?_; (case hd => rfl); (case hg => rfl); (case hr => first | (go_simp; done) | (go_simp; rfl)); intro gb150001 hg w8 hbox hb; have n0_ := Aside0.mk (below_step (by repeat (first | (with_reducible first | exact HB.out | apply below_alloc | apply pw_below_drewN | apply below_drew1) | exact HB.out)) hb); have n1_ := Aside0.mk (hbox); have n2_ := Aside0.mk ((by rw [hg]; exact (below_size (by repeat (first | (with_reducible first | exact HB.out | apply below_alloc | apply pw_below_drewN | apply below_drew1) | exact HB.out))) : w.heap.size ≤ gb150001)); have n3_ := Aside0.mk ((by rw [hg]; exact (below_size (by repeat (first | (with_reducible first | exact HB.out | apply below_alloc | apply pw_below_drewN | apply below_drew1) | exact HB.out))) : w.heap.size ≤ gb150001)); clear HB; have HB := n0_; have BK150001 := n1_; have GW150001 := n2_; have GE150001 := n3_; clear n0_ n1_ n2_ n3_; clear hb hbox hg) | ((with_reducible refine gate_callee (f := 20) rfl ?_); refine goesL_ (some 16) rfl rfl Try.func20 (by kernel_rfl) rfl #[.int .i64 a1, .int .i64 (wrap64 (((sx6).size : Int) + 1))] rfl (by (try simp only [List.map_toArray, List.map_cons, List.map_nil]); first | done | rfl | (simp only [List.length_drop, List.length_take]; rfl)) ?_; (with_reducible refine (columbariumlaw07_pick.calls a1 (wrap64 (((sx6).size : Int) + 1)) t150002 _ A7.out).mono ?_); rintro e w' ⟨rfl, ⟨nd, rfl⟩⟩; refine ⟨_, rfl, ?_⟩; (try (rw [drewN_self w8]; generalize hq_ : World.drewN w8 _ = w8; have n0_ : Aside0 (w8.heap[gb150001]? = some (.cells #[.string (⟨#[]⟩ : ByteArray), .int .i64 0] 23 (0, 0))) := ⟨by rw [← hq_]; exact (by (with_reducible repeat (first | refine blk_drewN ?_ _ | refine blk_drew ?_ | refine blk_alloc ?_ _)); exact BK150001.out)⟩; have n1_ : Aside0 (Below w.heap.size w w8) := ⟨by rw [← hq_]; exact (by repeat (first | (with_reducible first | exact HB.out | apply below_alloc | apply pw_below_drewN | apply below_drew1 | refine below_set ?_ GE150001.out) | exact HB.out))⟩; clear BK150001 HB hq_; have BK150001 := n0_; have HB := n1_; clear n0_ n1_)); have hcz9_0 : w8.cell? ⟨gb150001, 0, none⟩ = some (.string (⟨#[]⟩ : ByteArray)) := (blk_cell BK150001.out 0).trans rfl; have hcz9_1 : w8.cell? ⟨gb150001, 1, none⟩ = some (.int .i64 0) := (blk_cell BK150001.out 1).trans rfl; have hfz9_0 := blk_frozen BK150001.out 0; have hfz9_1 := blk_frozen BK150001.out 1))
   refine bodyPost_ret (results_cell_row rfl _ _ gb150001 23 #[.string sx6, .int .i64 t150002] (0, 0) _ rfl (by (with_reducible repeat (first | refine blk_drewN ?_ _ | refine blk_drew ?_ | refine blk_alloc ?_ _)); refine blk_put (cs := #[.string sx6, .int .i64 0]) ?_ 1 _ rfl; (with_reducible repeat (first | refine blk_drewN ?_ _ | refine blk_drew ?_ | refine blk_alloc ?_ _)); refine blk_put (cs := #[.string (⟨#[]⟩ : ByteArray), .int .i64 0]) ?_ 0 _ rfl; (with_reducible repeat (first | refine blk_drewN ?_ _ | refine blk_drew ?_ | refine blk_alloc ?_ _)); exact BK150001.out) Try.underlying23 rfl (by kernel_rfl)) rfl ?_
   exact ⟨by first | rfl | (simp [errW_none, errW_some] <;> rfl) | (simp only [← hji3, ← hsx6]; first | rfl | (simp [errW_none, errW_some] <;> rfl)) | (simp [*, errW_none, errW_some] <;> rfl), by repeat (first | (with_reducible first | exact HB.out | apply below_alloc | apply pw_below_drewN | apply below_drew1 | refine below_set ?_ GE150001.out) | exact HB.out)⟩
  ·rw [if_neg c5] at H
   exact absurd H (by simp)
 ·rw [if_neg c4] at H
  exact absurd H (by simp)

end Go.Proofs.Ytmkncddbecmlpaa.Pr
