-- Written by wip/tools/xprint.py, a patched run of the kit's print: not typed by hand.
import Derived.Test.YtmkncddbecmlpaaPr0
import Derived.Test.YtmkncddbecmlpaaXBase
import Derived.Test.YtmkncddbecmlpaaXDown
import Derived.Test.YtmkncddbecmlpaaPrFtapeswapint
import Derived.Test.YtmkncddbecmlpaaPrFtapeNumber
import Derived.Test.YtmkncddbecmlpaaPrFtapeNumber
import Derived.Test.YtmkncddbecmlpaaPrFtapeRight
import Derived.Test.YtmkncddbecmlpaaPrFtapeswapint
import Derived.Test.YtmkncddbecmlpaaXClone
import Derived.Test.YtmkncddbecmlpaaXTurnF
namespace Go.Proofs.Ytmkncddbecmlpaa.Pr
open Go.RowKit Go.Proofs.YtmkncddbecmlpaaW.PrintWords Go.Proofs.YtmkncddbecmlpaaW.PrintLast Go.Proofs.YtmkncddbecmlpaaW.PrintMore
attribute [local go_sem] max2_int min2_int max_two min_two max_three min_three max_four min_four   -- for this text's walks alone
set_option linter.unusedVariables false
set_option linter.unusedSimpArgs false

attribute [local go_sem] Oper.semAt_some
/-! ### tape_Turn: function 25 -/
def tape_Turn.f (a0_0 : ByteArray) (a0_1 : Int) (l1 : List Int) : Option (List Int × ByteArray × Int × Int) := (tape_Right.f a0_0 a0_1).bind fun t250005 => (if t250005 = true then (if (l1.length : Int) > 1000 then (some (([] : List Int), a0_0, a0_1, 2)) else ((slices_Clone_int_int.f l1).bind fun t250006 => (tape_Turn.rest a0_0 a0_1 t250006 a0_0 a0_1 l1))) else (some (([] : List Int), a0_0, a0_1, 1)))
set_option maxHeartbeats 8000000 in
set_option maxRecDepth 100000 in
theorem tape_Turn.calls (a0_0 : ByteArray) (a0_1 : Int) (A1 : Option Addr) (c1 : Nat) (l1 : List Int) (r1 : List Int) (r2 : ByteArray) (r3 : Int) (r4 : Int) (w : World) (hr1 : Kd.C (Kd.int .i64) w A1 l1.length l1) (hc1 : l1.length ≤ c1) (h : tape_Turn.f a0_0 a0_1 l1 = some (r1, r2, r3, r4)) :
  Calls Try.prog 25 #[.agg #[.string a0_0, .int .i64 a0_1], .slice A1 l1.length c1] w fun e w' => ∃ v0_ : Value, e = .returned (.tuple #[v0_, .agg #[.string r2, .int .i64 r3], .int .i64 r4]) ∧ Kd.R (Kd.int .i64) 3 w' w.heap.size (fun _ => True) v0_ r1 ∧ Below w.heap.size w w' := by
 have hu23 := Try.underlying23
 have HR1 := Aside0.mk hr1
 have HC1 := Aside0.mk hc1
 clear hr1 hc1
 have HB := Aside0.mk (Below.refl w.heap.size w)
 have H : ((tape_Right.f a0_0 a0_1).bind fun t250005 => (if t250005 = true then (if (l1.length : Int) > 1000 then (some (([] : List Int), a0_0, a0_1, 2)) else ((slices_Clone_int_int.f l1).bind fun t250006 => (tape_Turn.rest a0_0 a0_1 t250006 a0_0 a0_1 l1))) else (some (([] : List Int), a0_0, a0_1, 1)))) = some (r1, r2, r3, r4) := h
 clear h
 replace H := Option.bind_eq_some_iff.mp H
 obtain ⟨t250005, A30, H⟩ := H
 replace H : (if t250005 = true then (if (l1.length : Int) > 1000 then (some (([] : List Int), a0_0, a0_1, 2)) else ((slices_Clone_int_int.f l1).bind fun t250006 => (tape_Turn.rest a0_0 a0_1 t250006 a0_0 a0_1 l1))) else (some (([] : List Int), a0_0, a0_1, 1))) = some (r1, r2, r3, r4) := H
 have A3 := Aside0.mk A30
 clear A30
 by_cases c4 : t250005 = true
 ·subst c4
  have H1 : (if (l1.length : Int) > 1000 then (some (([] : List Int), a0_0, a0_1, 2)) else ((slices_Clone_int_int.f l1).bind fun t250006 => (tape_Turn.rest a0_0 a0_1 t250006 a0_0 a0_1 l1))) = some (r1, r2, r3, r4) := by rw [if_pos rfl] at H; exact H
  clear H
  have H := H1
  clear H1
  by_cases c5 : (l1.length : Int) > 1000
  ·rw [if_pos c5] at H
   have c5b0 : decide (1000 < (l1.length : Int)) = true := decide_eq_true c5
   have c5b1 : decide (1000 < l1.length) = true := decide_eq_true (by omega)
   clear c5
   simp only [Option.some.injEq, Prod.mk.injEq] at H
   obtain ⟨rfl, rfl, rfl, rfl⟩ := H
   refine (callsIn_wide (n := 9)).1 (callsIn_of_wp_marks Try.func25 rfl trivial ?_ rfl)
   refine XB.QM_wp ?_
   simp only [Try.ntmps25, List.size_toArray, List.length_cons, List.length_nil, Nat.reduceAdd, Nat.reduceSub, Array.replicate_succ, Array.replicate_zero, List.push_toArray, List.append_toArray, List.nil_append, List.cons_append]
   try go_wp2_with (first | ((with_reducible refine gate_dst (N := 2) rfl ?_); refine box_event ?hg (N := 2) ?hd (cs := #[.string a0_0, .int .i64 a0_1]) (t := 23) ?hr ?_; (case hd => rfl); (case hg => rfl); (case hr => first | (go_simp; done) | (go_simp; rfl)); intro gb250001 hg w6 hbox hb; have n0_ := Aside0.mk (below_step (by repeat (first | (with_reducible first | exact HB.out | apply below_alloc | apply pw_below_drewN | apply below_drew1) | exact HB.out)) hb); have n1_ := Aside0.mk (hbox); have n2_ := Aside0.mk ((by rw [hg]; exact (below_size (by repeat (first | (with_reducible first | exact HB.out | apply below_alloc | apply pw_below_drewN | apply below_drew1) | exact HB.out))) : w.heap.size ≤ gb250001)); have n3_ := Aside0.mk ((by rw [hg]; exact (below_size (by repeat (first | (with_reducible first | exact HB.out | apply below_alloc | apply pw_below_drewN | apply below_drew1) | exact HB.out))) : w.heap.size ≤ gb250001)); clear HB; have HB := n0_; have BK250001 := n1_; have GW250001 := n2_; have GE250001 := n3_; clear n0_ n1_ n2_ n3_; clear hb hbox hg) | ((with_reducible refine gate_dst (N := 4) rfl ?_); refine box_event ?hg (N := 4) ?hd (cs := #[.slice none 0 0]) (t := 24) ?hr ?_; (case hd => rfl); (case hg => rfl); (case hr => first | (go_simp; done) | (go_simp; rfl)); intro gb250002 hg w7 hbox hb; have n0_ := Aside0.mk (blk_below (g := gb250001) (o := .cells #[.string a0_0, .int .i64 a0_1] 23 (0, 0)) (by (with_reducible repeat (first | refine blk_drewN ?_ _ | refine blk_drew ?_ | refine blk_alloc ?_ _)); exact BK250001.out) hb); have n1_ := Aside0.mk (below_step (by repeat (first | (with_reducible first | exact HB.out | apply below_alloc | apply pw_below_drewN | apply below_drew1 | refine below_set ?_ GE250001.out) | exact HB.out)) hb); have n2_ := Aside0.mk (hbox); have n3_ := Aside0.mk ((by rw [hg]; exact (below_size (by repeat (first | (with_reducible first | exact HB.out | apply below_alloc | apply pw_below_drewN | apply below_drew1 | refine below_set ?_ GE250001.out) | exact HB.out))) : w.heap.size ≤ gb250002)); have n4_ := Aside0.mk ((by rw [hg]; exact (below_size (by repeat (first | (with_reducible first | exact HB.out | apply below_alloc | apply pw_below_drewN | apply below_drew1 | refine below_set ?_ GE250001.out) | exact HB.out))) : w.heap.size ≤ gb250002)); have n5_ := Aside0.mk ((by rw [hg]; exact Nat.ne_of_lt (blk_lt (g := gb250001) (o := .cells #[.string a0_0, .int .i64 a0_1] 23 (0, 0)) (by (with_reducible repeat (first | refine blk_drewN ?_ _ | refine blk_drew ?_ | refine blk_alloc ?_ _)); exact BK250001.out)) : gb250001 ≠ gb250002)); have n6_ := Aside0.mk ((by rw [hg]; exact Nat.ne_of_gt (blk_lt (g := gb250001) (o := .cells #[.string a0_0, .int .i64 a0_1] 23 (0, 0)) (by (with_reducible repeat (first | refine blk_drewN ?_ _ | refine blk_drew ?_ | refine blk_alloc ?_ _)); exact BK250001.out)) : gb250002 ≠ gb250001)); clear BK250001; clear HB; have BK250001 := n0_; have HB := n1_; have BK250002 := n2_; have GW250002 := n3_; have GE250002 := n4_; have NB250001_250002 := n5_; have NB250002_250001 := n6_; clear n0_ n1_ n2_ n3_ n4_ n5_ n6_; clear hb hbox hg) | ((with_reducible refine gate_dst (N := 5) rfl ?_); refine box_event ?hg (N := 5) ?hd (cs := #[.string (⟨#[]⟩ : ByteArray), .int .i64 0]) (t := 23) ?hr ?_; (case hd => rfl); (case hg => rfl); (case hr => first | (go_simp; done) | (go_simp; rfl)); intro gb250003 hg w8 hbox hb; have n0_ := Aside0.mk (blk_below (g := gb250001) (o := .cells #[.string a0_0, .int .i64 a0_1] 23 (0, 0)) (by (with_reducible repeat (first | refine blk_drewN ?_ _ | refine blk_drew ?_ | refine blk_alloc ?_ _)); exact BK250001.out) hb); have n1_ := Aside0.mk (blk_below (g := gb250002) (o := .cells #[.slice none 0 0] 24 (0, 0)) (by (with_reducible repeat (first | refine blk_drewN ?_ _ | refine blk_drew ?_ | refine blk_alloc ?_ _)); exact BK250002.out) hb); have n2_ := Aside0.mk (below_step (by repeat (first | (with_reducible first | exact HB.out | apply below_alloc | apply pw_below_drewN | apply below_drew1 | refine below_set ?_ GE250001.out | refine below_set ?_ GE250002.out) | exact HB.out)) hb); have n3_ := Aside0.mk (hbox); have n4_ := Aside0.mk ((by rw [hg]; exact (below_size (by repeat (first | (with_reducible first | exact HB.out | apply below_alloc | apply pw_below_drewN | apply below_drew1 | refine below_set ?_ GE250001.out | refine below_set ?_ GE250002.out) | exact HB.out))) : w.heap.size ≤ gb250003)); have n5_ := Aside0.mk ((by rw [hg]; exact (below_size (by repeat (first | (with_reducible first | exact HB.out | apply below_alloc | apply pw_below_drewN | apply below_drew1 | refine below_set ?_ GE250001.out | refine below_set ?_ GE250002.out) | exact HB.out))) : w.heap.size ≤ gb250003)); have n6_ := Aside0.mk ((by rw [hg]; exact Nat.ne_of_lt (blk_lt (g := gb250001) (o := .cells #[.string a0_0, .int .i64 a0_1] 23 (0, 0)) (by (with_reducible repeat (first | refine blk_drewN ?_ _ | refine blk_drew ?_ | refine blk_alloc ?_ _)); exact BK250001.out)) : gb250001 ≠ gb250003)); have n7_ := Aside0.mk ((by rw [hg]; exact Nat.ne_of_gt (blk_lt (g := gb250001) (o := .cells #[.string a0_0, .int .i64 a0_1] 23 (0, 0)) (by (with_reducible repeat (first | refine blk_drewN ?_ _ | refine blk_drew ?_ | refine blk_alloc ?_ _)); exact BK250001.out)) : gb250003 ≠ gb250001)); have n8_ := Aside0.mk ((by rw [hg]; exact Nat.ne_of_lt (blk_lt (g := gb250002) (o := .cells #[.slice none 0 0] 24 (0, 0)) (by (with_reducible repeat (first | refine blk_drewN ?_ _ | refine blk_drew ?_ | refine blk_alloc ?_ _)); exact BK250002.out)) : gb250002 ≠ gb250003)); have n9_ := Aside0.mk ((by rw [hg]; exact Nat.ne_of_gt (blk_lt (g := gb250002) (o := .cells #[.slice none 0 0] 24 (0, 0)) (by (with_reducible repeat (first | refine blk_drewN ?_ _ | refine blk_drew ?_ | refine blk_alloc ?_ _)); exact BK250002.out)) : gb250003 ≠ gb250002)); clear BK250001; clear BK250002; clear HB; have BK250001 := n0_; have BK250002 := n1_; have HB := n2_; have BK250003 := n3_; have GW250003 := n4_; have GE250003 := n5_; have NB250001_250003 := n6_; have NB250003_250001 := n7_; have NB250002_250003 := n8_; have NB250003_250002 := n9_; clear n0_ n1_ n2_ n3_ n4_ n5_ n6_ n7_ n8_ n9_; clear hb hbox hg) | ((with_reducible refine gate_dst (N := 6) rfl ?_); refine box_event ?hg (N := 6) ?hd (cs := #[.int .i64 0]) (t := 31) ?hr ?_; (case hd => rfl); (case hg => rfl); (case hr => first | (go_simp; done) | (go_simp; rfl)); intro gb250004 hg w9 hbox hb; have n0_ := Aside0.mk (blk_below (g := gb250001) (o := .cells #[.string a0_0, .int .i64 a0_1] 23 (0, 0)) (by (with_reducible repeat (first | refine blk_drewN ?_ _ | refine blk_drew ?_ | refine blk_alloc ?_ _)); exact BK250001.out) hb); have n1_ := Aside0.mk (blk_below (g := gb250002) (o := .cells #[.slice none 0 0] 24 (0, 0)) (by (with_reducible repeat (first | refine blk_drewN ?_ _ | refine blk_drew ?_ | refine blk_alloc ?_ _)); exact BK250002.out) hb); have n2_ := Aside0.mk (blk_below (g := gb250003) (o := .cells #[.string (⟨#[]⟩ : ByteArray), .int .i64 0] 23 (0, 0)) (by (with_reducible repeat (first | refine blk_drewN ?_ _ | refine blk_drew ?_ | refine blk_alloc ?_ _)); exact BK250003.out) hb); have n3_ := Aside0.mk (below_step (by repeat (first | (with_reducible first | exact HB.out | apply below_alloc | apply pw_below_drewN | apply below_drew1 | refine below_set ?_ GE250001.out | refine below_set ?_ GE250002.out | refine below_set ?_ GE250003.out) | exact HB.out)) hb); have n4_ := Aside0.mk (hbox); have n5_ := Aside0.mk ((by rw [hg]; exact (below_size (by repeat (first | (with_reducible first | exact HB.out | apply below_alloc | apply pw_below_drewN | apply below_drew1 | refine below_set ?_ GE250001.out | refine below_set ?_ GE250002.out | refine below_set ?_ GE250003.out) | exact HB.out))) : w.heap.size ≤ gb250004)); have n6_ := Aside0.mk ((by rw [hg]; exact (below_size (by repeat (first | (with_reducible first | exact HB.out | apply below_alloc | apply pw_below_drewN | apply below_drew1 | refine below_set ?_ GE250001.out | refine below_set ?_ GE250002.out | refine below_set ?_ GE250003.out) | exact HB.out))) : w.heap.size ≤ gb250004)); have n7_ := Aside0.mk ((by rw [hg]; exact Nat.ne_of_lt (blk_lt (g := gb250001) (o := .cells #[.string a0_0, .int .i64 a0_1] 23 (0, 0)) (by (with_reducible repeat (first | refine blk_drewN ?_ _ | refine blk_drew ?_ | refine blk_alloc ?_ _)); exact BK250001.out)) : gb250001 ≠ gb250004)); have n8_ := Aside0.mk ((by rw [hg]; exact Nat.ne_of_gt (blk_lt (g := gb250001) (o := .cells #[.string a0_0, .int .i64 a0_1] 23 (0, 0)) (by (with_reducible repeat (first | refine blk_drewN ?_ _ | refine blk_drew ?_ | refine blk_alloc ?_ _)); exact BK250001.out)) : gb250004 ≠ gb250001)); have n9_ := Aside0.mk ((by rw [hg]; exact Nat.ne_of_lt (blk_lt (g := gb250002) (o := .cells #[.slice none 0 0] 24 (0, 0)) (by (with_reducible repeat (first | refine blk_drewN ?_ _ | refine blk_drew ?_ | refine blk_alloc ?_ _)); exact BK250002.out)) : gb250002 ≠ gb250004)); have n10_ := Aside0.mk ((by rw [hg]; exact Nat.ne_of_gt (blk_lt (g := gb250002) (o := .cells #[.slice none 0 0] 24 (0, 0)) (by (with_reducible repeat (first | refine blk_drewN ?_ _ | refine blk_drew ?_ | refine blk_alloc ?_ _)); exact BK250002.out)) : gb250004 ≠ gb250002)); have n11_ := Aside0.mk ((by rw [hg]; exact Nat.ne_of_lt (blk_lt (g := gb250003) (o := .cells #[.string (⟨#[]⟩ : ByteArray), .int .i64 0] 23 (0, 0)) (by (with_reducible repeat (first | refine blk_drewN ?_ _ | refine blk_drew ?_ | refine blk_alloc ?_ _)); exact BK250003.out)) : gb250003 ≠ gb250004)); have n12_ := Aside0.mk ((by rw [hg]; exact Nat.ne_of_gt (blk_lt (g := gb250003) (o := .cells #[.string (⟨#[]⟩ : ByteArray), .int .i64 0] 23 (0, 0)) (by (with_reducible repeat (first | refine blk_drewN ?_ _ | refine blk_drew ?_ | refine blk_alloc ?_ _)); exact BK250003.out)) : gb250004 ≠ gb250003)); clear BK250001; clear BK250002; clear BK250003; clear HB; have BK250001 := n0_; have BK250002 := n1_; have BK250003 := n2_; have HB := n3_; have BK250004 := n4_; have GW250004 := n5_; have GE250004 := n6_; have NB250001_250004 := n7_; have NB250004_250001 := n8_; have NB250002_250004 := n9_; have NB250004_250002 := n10_; have NB250003_250004 := n11_; have NB250004_250003 := n12_; clear n0_ n1_ n2_ n3_ n4_ n5_ n6_ n7_ n8_ n9_ n10_ n11_ n12_; clear hb hbox hg; have hnb10 := NB250001_250002.out; have hnc10 := NB250002_250001.out; have hnb11 := NB250001_250003.out; have hnc11 := NB250003_250001.out; have hnb12 := NB250001_250004.out; have hnc12 := NB250004_250001.out; have hcz13_0 : w9.cell? ⟨gb250001, 0, none⟩ = some (.string a0_0) := (blk_cell BK250001.out 0).trans rfl; have hcz13_1 : w9.cell? ⟨gb250001, 1, none⟩ = some (.int .i64 a0_1) := (blk_cell BK250001.out 1).trans rfl; have hfz13_0 := blk_frozen BK250001.out 0; have hfz13_1 := blk_frozen BK250001.out 1) | ((with_reducible refine gate_callee (f := 16) rfl ?_); refine goesL_ (some 15) rfl rfl Try.func16 (by kernel_rfl) rfl #[.agg #[.string a0_0, .int .i64 a0_1]] rfl (by (try simp only [List.map_toArray, List.map_cons, List.map_nil]); first | done | rfl | (simp only [List.length_drop, List.length_take]; rfl)) ?_; (with_reducible refine (tape_Right.calls a0_0 a0_1 true _ A3.out).mono ?_); rintro e w14 ⟨rfl, hb⟩; refine ⟨_, rfl, ?_⟩; have n0_ := Aside0.mk (blk_below (g := gb250001) (o := .cells #[.string a0_0, .int .i64 a0_1] 23 (0, 0)) (by (with_reducible repeat (first | refine blk_drewN ?_ _ | refine blk_drew ?_ | refine blk_alloc ?_ _)); exact BK250001.out) hb); have n1_ := Aside0.mk (blk_below (g := gb250002) (o := .cells #[.slice none 0 0] 24 (0, 0)) (by (with_reducible repeat (first | refine blk_drewN ?_ _ | refine blk_drew ?_ | refine blk_alloc ?_ _)); exact BK250002.out) hb); have n2_ := Aside0.mk (blk_below (g := gb250003) (o := .cells #[.string (⟨#[]⟩ : ByteArray), .int .i64 0] 23 (0, 0)) (by (with_reducible repeat (first | refine blk_drewN ?_ _ | refine blk_drew ?_ | refine blk_alloc ?_ _)); exact BK250003.out) hb); have n3_ := Aside0.mk (blk_below (g := gb250004) (o := .cells #[.int .i64 0] 31 (0, 0)) (by (with_reducible repeat (first | refine blk_drewN ?_ _ | refine blk_drew ?_ | refine blk_alloc ?_ _)); exact BK250004.out) hb); have n4_ := Aside0.mk (below_step (by repeat (first | (with_reducible first | exact HB.out | apply below_alloc | apply pw_below_drewN | apply below_drew1 | refine below_set ?_ GE250001.out | refine below_set ?_ GE250002.out | refine below_set ?_ GE250003.out | refine below_set ?_ GE250004.out) | exact HB.out)) hb); clear BK250001; clear BK250002; clear BK250003; clear BK250004; clear HB; have BK250001 := n0_; have BK250002 := n1_; have BK250003 := n2_; have BK250004 := n3_; have HB := n4_; clear n0_ n1_ n2_ n3_ n4_; (try clear hb); (try clear hb2); (try clear hk); (try clear hi)))
   have n0_ := Aside0.mk (blk_drew BK250001.out)
   have n1_ := Aside0.mk (blk_drew BK250002.out)
   have n2_ := Aside0.mk (blk_drew BK250003.out)
   have n3_ := Aside0.mk (blk_drew BK250004.out)
   have n4_ := Aside0.mk (below_drew1 HB.out)
   clear BK250001
   clear BK250002
   clear BK250003
   clear BK250004
   clear HB
   have BK250001 := n0_
   have BK250002 := n1_
   have BK250003 := n2_
   have BK250004 := n3_
   have HB := n4_
   clear n0_ n1_ n2_ n3_ n4_
   refine start_ (n := 4) (S := fun w' => w'.cell? ⟨gb250001, 0, none⟩ = some (.string a0_0) ∧ w'.cell? ⟨gb250001, 1, none⟩ = some (.int .i64 a0_1)) (ds := []) #[false, false, false, false] (by kernel_rfl) rfl rfl ⟨(blk_cell BK250001.out 0).trans rfl, (blk_cell BK250001.out 1).trans rfl⟩ (fun hHeld => ?_)
   generalize w14.drew = w15 at BK250001 BK250002 BK250003 BK250004 HB hHeld ⊢
   refine take_ (i := 0) (N := some 22) (v := ?_) (a' := ?_) #[true, false, false, false] rfl rfl (by kernel_rfl) (fun _ _ _ h => h) (Or.inl ⟨by rfl, ?_⟩) hHeld ?_ ?_
   rotate_left
   ·rintro w' ⟨s0, s1⟩
    go_simp
    with_reducible rfl
   rotate_left
   ·simp only [Act.put, List.setIfInBounds_toArray, List.set_cons_zero, List.set_cons_succ, i64_w, i32_w]
    rfl
   refine one_ (i := 1) (N := none) #[true, true, false, false] rfl rfl (by kernel_rfl) (by decide) (fun K hK => ?_)
   have hs16 : w15.cell? ⟨gb250002, 0, none⟩ = some (.slice none 0 0) := (blk_cell BK250002.out 0).trans rfl
   have hfs16 := blk_frozen BK250002.out 0
   have hns16_0 := NB250001_250002.out
   have hns16_2 := NB250003_250002.out
   have hns16_3 := NB250004_250002.out
   have hms16_0 := NB250002_250001.out
   have hms16_2 := NB250002_250003.out
   have hms16_3 := NB250002_250004.out
   refine skip_ (w1 := ?_) (by rfl) rfl ?_ ?_
   rotate_left
   ·go_simp
    rfl
   refine hK.out _ _ ⟨((cell_far (p := ⟨gb250002, _, none⟩) NB250001_250002.out _).trans (hHeld.1)), ((cell_far (p := ⟨gb250002, _, none⟩) NB250001_250002.out _).trans (hHeld.2))⟩ (fun hHeld => ?_)
   clear hK K
   refine one_ (i := 2) (N := none) #[true, true, true, false] rfl rfl (by kernel_rfl) (by decide) (fun K hK => ?_)
   have hs17 : w15.cell? ⟨gb250003, 0, none⟩ = some (.string (⟨#[]⟩ : ByteArray)) := (blk_cell BK250003.out 0).trans rfl
   have hfs17 := blk_frozen BK250003.out 0
   have hns17_0 := NB250001_250003.out
   have hns17_1 := NB250002_250003.out
   have hns17_3 := NB250004_250003.out
   have hms17_0 := NB250003_250001.out
   have hms17_1 := NB250003_250002.out
   have hms17_3 := NB250003_250004.out
   have hs18 : w15.cell? ⟨gb250003, 1, none⟩ = some (.int .i64 0) := (blk_cell BK250003.out 1).trans rfl
   have hfs18 := blk_frozen BK250003.out 1
   have hns18_0 := NB250001_250003.out
   have hns18_1 := NB250002_250003.out
   have hns18_3 := NB250004_250003.out
   have hms18_0 := NB250003_250001.out
   have hms18_1 := NB250003_250002.out
   have hms18_3 := NB250003_250004.out
   refine skip_ (w1 := ?_) (by rfl) rfl ?_ ?_
   rotate_left
   ·go_simp
    rfl
   refine hK.out _ _ ⟨((cell_far (p := ⟨gb250003, _, none⟩) NB250001_250003.out _).trans (((cell_far (p := ⟨gb250003, _, none⟩) NB250001_250003.out _).trans (hHeld.1)))), ((cell_far (p := ⟨gb250003, _, none⟩) NB250001_250003.out _).trans (((cell_far (p := ⟨gb250003, _, none⟩) NB250001_250003.out _).trans (hHeld.2))))⟩ (fun hHeld => ?_)
   clear hK K
   refine one_ (i := 3) (N := none) #[true, true, true, true] rfl rfl (by kernel_rfl) (by decide) (fun K hK => ?_)
   have hs19 : w15.cell? ⟨gb250004, 0, none⟩ = some (.int .i64 0) := (blk_cell BK250004.out 0).trans rfl
   have hfs19 := blk_frozen BK250004.out 0
   have hns19_0 := NB250001_250004.out
   have hns19_1 := NB250002_250004.out
   have hns19_2 := NB250003_250004.out
   have hms19_0 := NB250004_250001.out
   have hms19_1 := NB250004_250002.out
   have hms19_2 := NB250004_250003.out
   refine skip_ (w1 := ?_) (by rfl) rfl ?_ ?_
   rotate_left
   ·go_simp
    rfl
   refine hK.out _ _ ⟨((cell_far (p := ⟨gb250004, _, none⟩) NB250001_250004.out _).trans (hHeld.1)), ((cell_far (p := ⟨gb250004, _, none⟩) NB250001_250004.out _).trans (hHeld.2))⟩ (fun hHeld => ?_)
   clear hK K
   refine done_ (by kernel_rfl) ?_
   try go_wp2
   refine XB.QM_of (by first | exact Or.inl rfl | exact Or.inr rfl) ?_
   refine bodyPost_ret (XB.resultsX_list (rs := [.cell 4 24, .cell 5 23, .cell 6 31]) rfl (by simp) (.one gb250002 24 (.slice none 0 0) (0, 0) _ rfl (by (with_reducible repeat (first | refine blk_drewN ?_ _ | refine blk_drew ?_ | refine blk_alloc ?_ _)); refine blk_far ?_ NB250002_250004.out _; (with_reducible repeat (first | refine blk_drewN ?_ _ | refine blk_drew ?_ | refine blk_alloc ?_ _)); refine blk_far ?_ NB250002_250003.out _; (with_reducible repeat (first | refine blk_drewN ?_ _ | refine blk_drew ?_ | refine blk_alloc ?_ _)); refine blk_far ?_ NB250002_250003.out _; (with_reducible repeat (first | refine blk_drewN ?_ _ | refine blk_drew ?_ | refine blk_alloc ?_ _)); refine blk_put (cs := #[.slice none 0 0]) ?_ 0 _ rfl; (with_reducible repeat (first | refine blk_drewN ?_ _ | refine blk_drew ?_ | refine blk_alloc ?_ _)); exact BK250002.out) Try.underlying24 rfl (.cell gb250003 23 #[.string a0_0, .int .i64 a0_1] (0, 0) _ rfl (by (with_reducible repeat (first | refine blk_drewN ?_ _ | refine blk_drew ?_ | refine blk_alloc ?_ _)); refine blk_far ?_ NB250003_250004.out _; (with_reducible repeat (first | refine blk_drewN ?_ _ | refine blk_drew ?_ | refine blk_alloc ?_ _)); refine blk_put (cs := #[.string a0_0, .int .i64 0]) ?_ 1 _ rfl; (with_reducible repeat (first | refine blk_drewN ?_ _ | refine blk_drew ?_ | refine blk_alloc ?_ _)); refine blk_put (cs := #[.string (⟨#[]⟩ : ByteArray), .int .i64 0]) ?_ 0 _ rfl; (with_reducible repeat (first | refine blk_drewN ?_ _ | refine blk_drew ?_ | refine blk_alloc ?_ _)); refine blk_far ?_ NB250003_250002.out _; (with_reducible repeat (first | refine blk_drewN ?_ _ | refine blk_drew ?_ | refine blk_alloc ?_ _)); exact BK250003.out) Try.underlying23 rfl (by kernel_rfl) (.one gb250004 31 (.int .i64 2) (0, 0) _ rfl (by (with_reducible repeat (first | refine blk_drewN ?_ _ | refine blk_drew ?_ | refine blk_alloc ?_ _)); refine blk_put (cs := #[.int .i64 0]) ?_ 0 _ rfl; (with_reducible repeat (first | refine blk_drewN ?_ _ | refine blk_drew ?_ | refine blk_alloc ?_ _)); refine blk_far ?_ NB250004_250003.out _; (with_reducible repeat (first | refine blk_drewN ?_ _ | refine blk_drew ?_ | refine blk_alloc ?_ _)); refine blk_far ?_ NB250004_250003.out _; (with_reducible repeat (first | refine blk_drewN ?_ _ | refine blk_drew ?_ | refine blk_alloc ?_ _)); refine blk_far ?_ NB250004_250002.out _; (with_reducible repeat (first | refine blk_drewN ?_ _ | refine blk_drew ?_ | refine blk_alloc ?_ _)); exact BK250004.out) Try.underlying31 rfl .nil)))) rfl ?_
   exact ⟨_, by first | rfl | (simp [errW_none, errW_some] <;> rfl) | (simp [*, errW_none, errW_some] <;> rfl), by first | exact Kd.R_nil _ _ _ _ _ | exact Kd.N_nil _ _ _ _ _ | exact Kd.V_nil _ _ _ _ _ | exact Kd.Q_nil _ _ _ _ _ | exact Kd.S_nil _ _ _ _ _, by repeat (first | (with_reducible first | exact HB.out | apply below_alloc | apply pw_below_drewN | apply below_drew1 | refine below_set ?_ GE250001.out | refine below_set ?_ GE250002.out | refine below_set ?_ GE250003.out | refine below_set ?_ GE250004.out) | exact HB.out)⟩
  ·rw [if_neg c5] at H
   have c5b0 : decide (1000 < (l1.length : Int)) = false := decide_eq_false c5
   have c5b1 : decide (1000 < l1.length) = false := decide_eq_false (by omega)
   clear c5
   replace H := Option.bind_eq_some_iff.mp H
   obtain ⟨t250006, A200, H⟩ := H
   replace H : (tape_Turn.rest a0_0 a0_1 t250006 a0_0 a0_1 l1) = some (r1, r2, r3, r4) := H
   have A20 := Aside0.mk A200
   clear A200
   have H' := Aside0.mk H
   clear H
   refine (callsIn_wide (n := 9)).1 (callsIn_of_wp_marks Try.func25 rfl trivial ?_ rfl)
   refine XB.QM_wp ?_
   simp only [Try.ntmps25, List.size_toArray, List.length_cons, List.length_nil, Nat.reduceAdd, Nat.reduceSub, Array.replicate_succ, Array.replicate_zero, List.push_toArray, List.append_toArray, List.nil_append, List.cons_append]
   try go_wp2_with (first | ((with_reducible refine gate_dst (N := 2) rfl ?_); refine box_event ?hg (N := 2) ?hd (cs := #[.string a0_0, .int .i64 a0_1]) (t := 23) ?hr ?_; (case hd => rfl); (case hg => rfl); (case hr => first | (go_simp; done) | (go_simp; rfl)); intro gb250001 hg w21 hbox hb; have n0_ := Aside0.mk (below_step (by repeat (first | (with_reducible first | exact HB.out | apply below_alloc | apply pw_below_drewN | apply below_drew1) | exact HB.out)) hb); have n1_ := Aside0.mk (hbox); have n2_ := Aside0.mk ((by rw [hg]; exact (below_size (by repeat (first | (with_reducible first | exact HB.out | apply below_alloc | apply pw_below_drewN | apply below_drew1) | exact HB.out))) : w.heap.size ≤ gb250001)); have n3_ := Aside0.mk ((by rw [hg]; exact (below_size (by repeat (first | (with_reducible first | exact HB.out | apply below_alloc | apply pw_below_drewN | apply below_drew1) | exact HB.out))) : w.heap.size ≤ gb250001)); clear HB; have HB := n0_; have BK250001 := n1_; have GW250001 := n2_; have GE250001 := n3_; clear n0_ n1_ n2_ n3_; clear hb hbox hg) | ((with_reducible refine gate_dst (N := 4) rfl ?_); refine box_event ?hg (N := 4) ?hd (cs := #[.slice none 0 0]) (t := 24) ?hr ?_; (case hd => rfl); (case hg => rfl); (case hr => first | (go_simp; done) | (go_simp; rfl)); intro gb250002 hg w22 hbox hb; have n0_ := Aside0.mk (blk_below (g := gb250001) (o := .cells #[.string a0_0, .int .i64 a0_1] 23 (0, 0)) (by (with_reducible repeat (first | refine blk_drewN ?_ _ | refine blk_drew ?_ | refine blk_alloc ?_ _)); exact BK250001.out) hb); have n1_ := Aside0.mk (below_step (by repeat (first | (with_reducible first | exact HB.out | apply below_alloc | apply pw_below_drewN | apply below_drew1 | refine below_set ?_ GE250001.out) | exact HB.out)) hb); have n2_ := Aside0.mk (hbox); have n3_ := Aside0.mk ((by rw [hg]; exact (below_size (by repeat (first | (with_reducible first | exact HB.out | apply below_alloc | apply pw_below_drewN | apply below_drew1 | refine below_set ?_ GE250001.out) | exact HB.out))) : w.heap.size ≤ gb250002)); have n4_ := Aside0.mk ((by rw [hg]; exact (below_size (by repeat (first | (with_reducible first | exact HB.out | apply below_alloc | apply pw_below_drewN | apply below_drew1 | refine below_set ?_ GE250001.out) | exact HB.out))) : w.heap.size ≤ gb250002)); have n5_ := Aside0.mk ((by rw [hg]; exact Nat.ne_of_lt (blk_lt (g := gb250001) (o := .cells #[.string a0_0, .int .i64 a0_1] 23 (0, 0)) (by (with_reducible repeat (first | refine blk_drewN ?_ _ | refine blk_drew ?_ | refine blk_alloc ?_ _)); exact BK250001.out)) : gb250001 ≠ gb250002)); have n6_ := Aside0.mk ((by rw [hg]; exact Nat.ne_of_gt (blk_lt (g := gb250001) (o := .cells #[.string a0_0, .int .i64 a0_1] 23 (0, 0)) (by (with_reducible repeat (first | refine blk_drewN ?_ _ | refine blk_drew ?_ | refine blk_alloc ?_ _)); exact BK250001.out)) : gb250002 ≠ gb250001)); clear BK250001; clear HB; have BK250001 := n0_; have HB := n1_; have BK250002 := n2_; have GW250002 := n3_; have GE250002 := n4_; have NB250001_250002 := n5_; have NB250002_250001 := n6_; clear n0_ n1_ n2_ n3_ n4_ n5_ n6_; clear hb hbox hg) | ((with_reducible refine gate_dst (N := 5) rfl ?_); refine box_event ?hg (N := 5) ?hd (cs := #[.string (⟨#[]⟩ : ByteArray), .int .i64 0]) (t := 23) ?hr ?_; (case hd => rfl); (case hg => rfl); (case hr => first | (go_simp; done) | (go_simp; rfl)); intro gb250003 hg w23 hbox hb; have n0_ := Aside0.mk (blk_below (g := gb250001) (o := .cells #[.string a0_0, .int .i64 a0_1] 23 (0, 0)) (by (with_reducible repeat (first | refine blk_drewN ?_ _ | refine blk_drew ?_ | refine blk_alloc ?_ _)); exact BK250001.out) hb); have n1_ := Aside0.mk (blk_below (g := gb250002) (o := .cells #[.slice none 0 0] 24 (0, 0)) (by (with_reducible repeat (first | refine blk_drewN ?_ _ | refine blk_drew ?_ | refine blk_alloc ?_ _)); exact BK250002.out) hb); have n2_ := Aside0.mk (below_step (by repeat (first | (with_reducible first | exact HB.out | apply below_alloc | apply pw_below_drewN | apply below_drew1 | refine below_set ?_ GE250001.out | refine below_set ?_ GE250002.out) | exact HB.out)) hb); have n3_ := Aside0.mk (hbox); have n4_ := Aside0.mk ((by rw [hg]; exact (below_size (by repeat (first | (with_reducible first | exact HB.out | apply below_alloc | apply pw_below_drewN | apply below_drew1 | refine below_set ?_ GE250001.out | refine below_set ?_ GE250002.out) | exact HB.out))) : w.heap.size ≤ gb250003)); have n5_ := Aside0.mk ((by rw [hg]; exact (below_size (by repeat (first | (with_reducible first | exact HB.out | apply below_alloc | apply pw_below_drewN | apply below_drew1 | refine below_set ?_ GE250001.out | refine below_set ?_ GE250002.out) | exact HB.out))) : w.heap.size ≤ gb250003)); have n6_ := Aside0.mk ((by rw [hg]; exact Nat.ne_of_lt (blk_lt (g := gb250001) (o := .cells #[.string a0_0, .int .i64 a0_1] 23 (0, 0)) (by (with_reducible repeat (first | refine blk_drewN ?_ _ | refine blk_drew ?_ | refine blk_alloc ?_ _)); exact BK250001.out)) : gb250001 ≠ gb250003)); have n7_ := Aside0.mk ((by rw [hg]; exact Nat.ne_of_gt (blk_lt (g := gb250001) (o := .cells #[.string a0_0, .int .i64 a0_1] 23 (0, 0)) (by (with_reducible repeat (first | refine blk_drewN ?_ _ | refine blk_drew ?_ | refine blk_alloc ?_ _)); exact BK250001.out)) : gb250003 ≠ gb250001)); have n8_ := Aside0.mk ((by rw [hg]; exact Nat.ne_of_lt (blk_lt (g := gb250002) (o := .cells #[.slice none 0 0] 24 (0, 0)) (by (with_reducible repeat (first | refine blk_drewN ?_ _ | refine blk_drew ?_ | refine blk_alloc ?_ _)); exact BK250002.out)) : gb250002 ≠ gb250003)); have n9_ := Aside0.mk ((by rw [hg]; exact Nat.ne_of_gt (blk_lt (g := gb250002) (o := .cells #[.slice none 0 0] 24 (0, 0)) (by (with_reducible repeat (first | refine blk_drewN ?_ _ | refine blk_drew ?_ | refine blk_alloc ?_ _)); exact BK250002.out)) : gb250003 ≠ gb250002)); clear BK250001; clear BK250002; clear HB; have BK250001 := n0_; have BK250002 := n1_; have HB := n2_; have BK250003 := n3_; have GW250003 := n4_; have GE250003 := n5_; have NB250001_250003 := n6_; have NB250003_250001 := n7_; have NB250002_250003 := n8_; have NB250003_250002 := n9_; clear n0_ n1_ n2_ n3_ n4_ n5_ n6_ n7_ n8_ n9_; clear hb hbox hg) | ((with_reducible refine gate_dst (N := 6) rfl ?_); refine box_event ?hg (N := 6) ?hd (cs := #[.int .i64 0]) (t := 31) ?hr ?_; (case hd => rfl); (case hg => rfl); (case hr => first | (go_simp; done) | (go_simp; rfl)); intro gb250004 hg w24 hbox hb; have n0_ := Aside0.mk (blk_below (g := gb250001) (o := .cells #[.string a0_0, .int .i64 a0_1] 23 (0, 0)) (by (with_reducible repeat (first | refine blk_drewN ?_ _ | refine blk_drew ?_ | refine blk_alloc ?_ _)); exact BK250001.out) hb); have n1_ := Aside0.mk (blk_below (g := gb250002) (o := .cells #[.slice none 0 0] 24 (0, 0)) (by (with_reducible repeat (first | refine blk_drewN ?_ _ | refine blk_drew ?_ | refine blk_alloc ?_ _)); exact BK250002.out) hb); have n2_ := Aside0.mk (blk_below (g := gb250003) (o := .cells #[.string (⟨#[]⟩ : ByteArray), .int .i64 0] 23 (0, 0)) (by (with_reducible repeat (first | refine blk_drewN ?_ _ | refine blk_drew ?_ | refine blk_alloc ?_ _)); exact BK250003.out) hb); have n3_ := Aside0.mk (below_step (by repeat (first | (with_reducible first | exact HB.out | apply below_alloc | apply pw_below_drewN | apply below_drew1 | refine below_set ?_ GE250001.out | refine below_set ?_ GE250002.out | refine below_set ?_ GE250003.out) | exact HB.out)) hb); have n4_ := Aside0.mk (hbox); have n5_ := Aside0.mk ((by rw [hg]; exact (below_size (by repeat (first | (with_reducible first | exact HB.out | apply below_alloc | apply pw_below_drewN | apply below_drew1 | refine below_set ?_ GE250001.out | refine below_set ?_ GE250002.out | refine below_set ?_ GE250003.out) | exact HB.out))) : w.heap.size ≤ gb250004)); have n6_ := Aside0.mk ((by rw [hg]; exact (below_size (by repeat (first | (with_reducible first | exact HB.out | apply below_alloc | apply pw_below_drewN | apply below_drew1 | refine below_set ?_ GE250001.out | refine below_set ?_ GE250002.out | refine below_set ?_ GE250003.out) | exact HB.out))) : w.heap.size ≤ gb250004)); have n7_ := Aside0.mk ((by rw [hg]; exact Nat.ne_of_lt (blk_lt (g := gb250001) (o := .cells #[.string a0_0, .int .i64 a0_1] 23 (0, 0)) (by (with_reducible repeat (first | refine blk_drewN ?_ _ | refine blk_drew ?_ | refine blk_alloc ?_ _)); exact BK250001.out)) : gb250001 ≠ gb250004)); have n8_ := Aside0.mk ((by rw [hg]; exact Nat.ne_of_gt (blk_lt (g := gb250001) (o := .cells #[.string a0_0, .int .i64 a0_1] 23 (0, 0)) (by (with_reducible repeat (first | refine blk_drewN ?_ _ | refine blk_drew ?_ | refine blk_alloc ?_ _)); exact BK250001.out)) : gb250004 ≠ gb250001)); have n9_ := Aside0.mk ((by rw [hg]; exact Nat.ne_of_lt (blk_lt (g := gb250002) (o := .cells #[.slice none 0 0] 24 (0, 0)) (by (with_reducible repeat (first | refine blk_drewN ?_ _ | refine blk_drew ?_ | refine blk_alloc ?_ _)); exact BK250002.out)) : gb250002 ≠ gb250004)); have n10_ := Aside0.mk ((by rw [hg]; exact Nat.ne_of_gt (blk_lt (g := gb250002) (o := .cells #[.slice none 0 0] 24 (0, 0)) (by (with_reducible repeat (first | refine blk_drewN ?_ _ | refine blk_drew ?_ | refine blk_alloc ?_ _)); exact BK250002.out)) : gb250004 ≠ gb250002)); have n11_ := Aside0.mk ((by rw [hg]; exact Nat.ne_of_lt (blk_lt (g := gb250003) (o := .cells #[.string (⟨#[]⟩ : ByteArray), .int .i64 0] 23 (0, 0)) (by (with_reducible repeat (first | refine blk_drewN ?_ _ | refine blk_drew ?_ | refine blk_alloc ?_ _)); exact BK250003.out)) : gb250003 ≠ gb250004)); have n12_ := Aside0.mk ((by rw [hg]; exact Nat.ne_of_gt (blk_lt (g := gb250003) (o := .cells #[.string (⟨#[]⟩ : ByteArray), .int .i64 0] 23 (0, 0)) (by (with_reducible repeat (first | refine blk_drewN ?_ _ | refine blk_drew ?_ | refine blk_alloc ?_ _)); exact BK250003.out)) : gb250004 ≠ gb250003)); clear BK250001; clear BK250002; clear BK250003; clear HB; have BK250001 := n0_; have BK250002 := n1_; have BK250003 := n2_; have HB := n3_; have BK250004 := n4_; have GW250004 := n5_; have GE250004 := n6_; have NB250001_250004 := n7_; have NB250004_250001 := n8_; have NB250002_250004 := n9_; have NB250004_250002 := n10_; have NB250003_250004 := n11_; have NB250004_250003 := n12_; clear n0_ n1_ n2_ n3_ n4_ n5_ n6_ n7_ n8_ n9_ n10_ n11_ n12_; clear hb hbox hg; have hnb25 := NB250001_250002.out; have hnc25 := NB250002_250001.out; have hnb26 := NB250001_250003.out; have hnc26 := NB250003_250001.out; have hnb27 := NB250001_250004.out; have hnc27 := NB250004_250001.out; have hcz28_0 : w24.cell? ⟨gb250001, 0, none⟩ = some (.string a0_0) := (blk_cell BK250001.out 0).trans rfl; have hcz28_1 : w24.cell? ⟨gb250001, 1, none⟩ = some (.int .i64 a0_1) := (blk_cell BK250001.out 1).trans rfl; have hfz28_0 := blk_frozen BK250001.out 0; have hfz28_1 := blk_frozen BK250001.out 1) | ((with_reducible refine gate_callee (f := 16) rfl ?_); refine goesL_ (some 15) rfl rfl Try.func16 (by kernel_rfl) rfl #[.agg #[.string a0_0, .int .i64 a0_1]] rfl (by (try simp only [List.map_toArray, List.map_cons, List.map_nil]); first | done | rfl | (simp only [List.length_drop, List.length_take]; rfl)) ?_; (with_reducible refine (tape_Right.calls a0_0 a0_1 true _ A3.out).mono ?_); rintro e w29 ⟨rfl, hb⟩; refine ⟨_, rfl, ?_⟩; have n0_ := Aside0.mk (blk_below (g := gb250001) (o := .cells #[.string a0_0, .int .i64 a0_1] 23 (0, 0)) (by (with_reducible repeat (first | refine blk_drewN ?_ _ | refine blk_drew ?_ | refine blk_alloc ?_ _)); exact BK250001.out) hb); have n1_ := Aside0.mk (blk_below (g := gb250002) (o := .cells #[.slice none 0 0] 24 (0, 0)) (by (with_reducible repeat (first | refine blk_drewN ?_ _ | refine blk_drew ?_ | refine blk_alloc ?_ _)); exact BK250002.out) hb); have n2_ := Aside0.mk (blk_below (g := gb250003) (o := .cells #[.string (⟨#[]⟩ : ByteArray), .int .i64 0] 23 (0, 0)) (by (with_reducible repeat (first | refine blk_drewN ?_ _ | refine blk_drew ?_ | refine blk_alloc ?_ _)); exact BK250003.out) hb); have n3_ := Aside0.mk (blk_below (g := gb250004) (o := .cells #[.int .i64 0] 31 (0, 0)) (by (with_reducible repeat (first | refine blk_drewN ?_ _ | refine blk_drew ?_ | refine blk_alloc ?_ _)); exact BK250004.out) hb); have n4_ := Aside0.mk (below_step (by repeat (first | (with_reducible first | exact HB.out | apply below_alloc | apply pw_below_drewN | apply below_drew1 | refine below_set ?_ GE250001.out | refine below_set ?_ GE250002.out | refine below_set ?_ GE250003.out | refine below_set ?_ GE250004.out) | exact HB.out)) hb); clear BK250001; clear BK250002; clear BK250003; clear BK250004; clear HB; have BK250001 := n0_; have BK250002 := n1_; have BK250003 := n2_; have BK250004 := n3_; have HB := n4_; clear n0_ n1_ n2_ n3_ n4_; (try clear hb); (try clear hb2); (try clear hk); (try clear hi)))
   have n0_ := Aside0.mk (blk_drew BK250001.out)
   have n1_ := Aside0.mk (blk_drew BK250002.out)
   have n2_ := Aside0.mk (blk_drew BK250003.out)
   have n3_ := Aside0.mk (blk_drew BK250004.out)
   have n4_ := Aside0.mk (below_drew1 HB.out)
   clear BK250001
   clear BK250002
   clear BK250003
   clear BK250004
   clear HB
   have BK250001 := n0_
   have BK250002 := n1_
   have BK250003 := n2_
   have BK250004 := n3_
   have HB := n4_
   clear n0_ n1_ n2_ n3_ n4_
   refine start_ (n := 7) (S := fun w' => w'.cell? ⟨gb250001, 0, none⟩ = some (.string a0_0) ∧ w'.cell? ⟨gb250001, 1, none⟩ = some (.int .i64 a0_1)) (ds := []) #[false, false, false, false, false, false, false] (by kernel_rfl) rfl rfl ⟨(blk_cell BK250001.out 0).trans rfl, (blk_cell BK250001.out 1).trans rfl⟩ (fun hHeld => ?_)
   generalize w29.drew = w30 at BK250001 BK250002 BK250003 BK250004 HB hHeld ⊢
   refine pure_ (i := 0) (N := some 23) (v := ?_) (a' := ?_) #[true, false, false, false, false, false, false] rfl rfl (by kernel_rfl) (fun _ _ _ h => h) (Or.inl ⟨by rfl, ?_⟩) ?_ ?_
   rotate_left
   ·intro w'
    go_simp
    with_reducible rfl
   rotate_left
   ·simp only [Act.put, List.setIfInBounds_toArray, List.set_cons_zero, List.set_cons_succ, i64_w, i32_w]
    rfl
   refine take_ (i := 2) (N := some 25) (v := ?_) (a' := ?_) #[true, false, true, false, false, false, false] rfl rfl (by kernel_rfl) (fun _ _ _ h => h) (Or.inl ⟨by rfl, ?_⟩) hHeld ?_ ?_
   rotate_left
   ·rintro w' ⟨s0, s1⟩
    go_simp
    with_reducible rfl
   rotate_left
   ·simp only [Act.put, List.setIfInBounds_toArray, List.set_cons_zero, List.set_cons_succ, i64_w, i32_w]
    rfl
   refine join_ (σ := Value × Nat × Nat) 2 #[true, true, true, true, true, false, false] (fun s_ => [(24, s_.1), (7, .pointer (some ⟨s_.2.1, 0, none⟩)), (8, .pointer (some ⟨s_.2.2, 0, none⟩))]) (fun s_ w' => (w'.cell? ⟨gb250001, 0, none⟩ = some (.string a0_0) ∧ w'.cell? ⟨gb250001, 1, none⟩ = some (.int .i64 a0_1)) ∧ (Kd.R (Kd.int .i64) 3 w' w.heap.size (fun _ => True) s_.1 t250006) ∧ (w'.heap[gb250001]? = some (.cells #[.string a0_0, .int .i64 a0_1] 23 (0, 0))) ∧ (w'.heap[gb250002]? = some (.cells #[.slice none 0 0] 24 (0, 0))) ∧ (w'.heap[gb250003]? = some (.cells #[.string (⟨#[]⟩ : ByteArray), .int .i64 0] 23 (0, 0))) ∧ (w'.heap[gb250004]? = some (.cells #[.int .i64 0] 31 (0, 0))) ∧ (w'.heap[s_.2.1]? = some (.cells #[.slice none 0 0] 24 (0, 0))) ∧ (w'.heap[s_.2.2]? = some (.cells #[.string (⟨#[]⟩ : ByteArray), .int .i64 0] 23 (0, 0))) ∧ (w.heap.size ≤ s_.2.1) ∧ (w.heap.size ≤ s_.2.1) ∧ (gb250001 ≠ s_.2.1) ∧ (s_.2.1 ≠ gb250001) ∧ (gb250002 ≠ s_.2.1) ∧ (s_.2.1 ≠ gb250002) ∧ (gb250003 ≠ s_.2.1) ∧ (s_.2.1 ≠ gb250003) ∧ (gb250004 ≠ s_.2.1) ∧ (s_.2.1 ≠ gb250004) ∧ (s_.2.2 ≠ s_.2.1) ∧ (s_.2.1 ≠ s_.2.2) ∧ (w.heap.size ≤ s_.2.2) ∧ (w.heap.size ≤ s_.2.2) ∧ (gb250001 ≠ s_.2.2) ∧ (s_.2.2 ≠ gb250001) ∧ (gb250002 ≠ s_.2.2) ∧ (s_.2.2 ≠ gb250002) ∧ (gb250003 ≠ s_.2.2) ∧ (s_.2.2 ≠ gb250003) ∧ (gb250004 ≠ s_.2.2) ∧ (s_.2.2 ≠ gb250004) ∧ (Below w.heap.size w w')) ?_ ?_
   rotate_left
   ·intro hJ1_3_4
    refine join_ (σ := Value × Nat) 3 #[true, true, true, true, false, false, false] (fun s_ => [(24, s_.1), (7, .pointer (some ⟨s_.2, 0, none⟩))]) (fun s_ w' => (w'.cell? ⟨gb250001, 0, none⟩ = some (.string a0_0) ∧ w'.cell? ⟨gb250001, 1, none⟩ = some (.int .i64 a0_1)) ∧ (Kd.R (Kd.int .i64) 3 w' w.heap.size (fun _ => True) s_.1 t250006) ∧ (w'.heap[gb250001]? = some (.cells #[.string a0_0, .int .i64 a0_1] 23 (0, 0))) ∧ (w'.heap[gb250002]? = some (.cells #[.slice none 0 0] 24 (0, 0))) ∧ (w'.heap[gb250003]? = some (.cells #[.string (⟨#[]⟩ : ByteArray), .int .i64 0] 23 (0, 0))) ∧ (w'.heap[gb250004]? = some (.cells #[.int .i64 0] 31 (0, 0))) ∧ (w'.heap[s_.2]? = some (.cells #[.slice none 0 0] 24 (0, 0))) ∧ (w.heap.size ≤ s_.2) ∧ (w.heap.size ≤ s_.2) ∧ (gb250001 ≠ s_.2) ∧ (s_.2 ≠ gb250001) ∧ (gb250002 ≠ s_.2) ∧ (s_.2 ≠ gb250002) ∧ (gb250003 ≠ s_.2) ∧ (s_.2 ≠ gb250003) ∧ (gb250004 ≠ s_.2) ∧ (s_.2 ≠ gb250004) ∧ (Below w.heap.size w w')) ?_ ?_
    rotate_left
    ·intro hJ1_3
     refine join_ (σ := Value × Nat) 3 #[true, true, true, false, true, false, false] (fun s_ => [(24, s_.1), (8, .pointer (some ⟨s_.2, 0, none⟩))]) (fun s_ w' => (w'.cell? ⟨gb250001, 0, none⟩ = some (.string a0_0) ∧ w'.cell? ⟨gb250001, 1, none⟩ = some (.int .i64 a0_1)) ∧ (Kd.R (Kd.int .i64) 3 w' w.heap.size (fun _ => True) s_.1 t250006) ∧ (w'.heap[gb250001]? = some (.cells #[.string a0_0, .int .i64 a0_1] 23 (0, 0))) ∧ (w'.heap[gb250002]? = some (.cells #[.slice none 0 0] 24 (0, 0))) ∧ (w'.heap[gb250003]? = some (.cells #[.string (⟨#[]⟩ : ByteArray), .int .i64 0] 23 (0, 0))) ∧ (w'.heap[gb250004]? = some (.cells #[.int .i64 0] 31 (0, 0))) ∧ (w'.heap[s_.2]? = some (.cells #[.string (⟨#[]⟩ : ByteArray), .int .i64 0] 23 (0, 0))) ∧ (w.heap.size ≤ s_.2) ∧ (w.heap.size ≤ s_.2) ∧ (gb250001 ≠ s_.2) ∧ (s_.2 ≠ gb250001) ∧ (gb250002 ≠ s_.2) ∧ (s_.2 ≠ gb250002) ∧ (gb250003 ≠ s_.2) ∧ (s_.2 ≠ gb250003) ∧ (gb250004 ≠ s_.2) ∧ (s_.2 ≠ gb250004) ∧ (Below w.heap.size w w')) ?_ ?_
     rotate_left
     ·intro hJ1_4
      refine join_ (σ := Nat × Nat) 3 #[true, false, true, true, true, false, false] (fun s_ => [(7, .pointer (some ⟨s_.1, 0, none⟩)), (8, .pointer (some ⟨s_.2, 0, none⟩))]) (fun s_ w' => (w'.cell? ⟨gb250001, 0, none⟩ = some (.string a0_0) ∧ w'.cell? ⟨gb250001, 1, none⟩ = some (.int .i64 a0_1)) ∧ (w'.heap[gb250001]? = some (.cells #[.string a0_0, .int .i64 a0_1] 23 (0, 0))) ∧ (w'.heap[gb250002]? = some (.cells #[.slice none 0 0] 24 (0, 0))) ∧ (w'.heap[gb250003]? = some (.cells #[.string (⟨#[]⟩ : ByteArray), .int .i64 0] 23 (0, 0))) ∧ (w'.heap[gb250004]? = some (.cells #[.int .i64 0] 31 (0, 0))) ∧ (w'.heap[s_.1]? = some (.cells #[.slice none 0 0] 24 (0, 0))) ∧ (w'.heap[s_.2]? = some (.cells #[.string (⟨#[]⟩ : ByteArray), .int .i64 0] 23 (0, 0))) ∧ (w.heap.size ≤ s_.1) ∧ (w.heap.size ≤ s_.1) ∧ (gb250001 ≠ s_.1) ∧ (s_.1 ≠ gb250001) ∧ (gb250002 ≠ s_.1) ∧ (s_.1 ≠ gb250002) ∧ (gb250003 ≠ s_.1) ∧ (s_.1 ≠ gb250003) ∧ (gb250004 ≠ s_.1) ∧ (s_.1 ≠ gb250004) ∧ (s_.2 ≠ s_.1) ∧ (s_.1 ≠ s_.2) ∧ (w.heap.size ≤ s_.2) ∧ (w.heap.size ≤ s_.2) ∧ (gb250001 ≠ s_.2) ∧ (s_.2 ≠ gb250001) ∧ (gb250002 ≠ s_.2) ∧ (s_.2 ≠ gb250002) ∧ (gb250003 ≠ s_.2) ∧ (s_.2 ≠ gb250003) ∧ (gb250004 ≠ s_.2) ∧ (s_.2 ≠ gb250004) ∧ (Below w.heap.size w w')) ?_ ?_
      rotate_left
      ·intro hJ3_4
       refine join_ (σ := Value) 4 #[true, true, true, false, false, false, false] (fun s_ => [(24, s_)]) (fun s_ w' => (w'.cell? ⟨gb250001, 0, none⟩ = some (.string a0_0) ∧ w'.cell? ⟨gb250001, 1, none⟩ = some (.int .i64 a0_1)) ∧ (Kd.R (Kd.int .i64) 3 w' w.heap.size (fun _ => True) s_ t250006) ∧ (w'.heap[gb250001]? = some (.cells #[.string a0_0, .int .i64 a0_1] 23 (0, 0))) ∧ (w'.heap[gb250002]? = some (.cells #[.slice none 0 0] 24 (0, 0))) ∧ (w'.heap[gb250003]? = some (.cells #[.string (⟨#[]⟩ : ByteArray), .int .i64 0] 23 (0, 0))) ∧ (w'.heap[gb250004]? = some (.cells #[.int .i64 0] 31 (0, 0))) ∧ (Below w.heap.size w w')) ?_ ?_
       rotate_left
       ·intro hJ1
        refine join_ (σ := Nat) 4 #[true, false, true, true, false, false, false] (fun s_ => [(7, .pointer (some ⟨s_, 0, none⟩))]) (fun s_ w' => (w'.cell? ⟨gb250001, 0, none⟩ = some (.string a0_0) ∧ w'.cell? ⟨gb250001, 1, none⟩ = some (.int .i64 a0_1)) ∧ (w'.heap[gb250001]? = some (.cells #[.string a0_0, .int .i64 a0_1] 23 (0, 0))) ∧ (w'.heap[gb250002]? = some (.cells #[.slice none 0 0] 24 (0, 0))) ∧ (w'.heap[gb250003]? = some (.cells #[.string (⟨#[]⟩ : ByteArray), .int .i64 0] 23 (0, 0))) ∧ (w'.heap[gb250004]? = some (.cells #[.int .i64 0] 31 (0, 0))) ∧ (w'.heap[s_]? = some (.cells #[.slice none 0 0] 24 (0, 0))) ∧ (w.heap.size ≤ s_) ∧ (w.heap.size ≤ s_) ∧ (gb250001 ≠ s_) ∧ (s_ ≠ gb250001) ∧ (gb250002 ≠ s_) ∧ (s_ ≠ gb250002) ∧ (gb250003 ≠ s_) ∧ (s_ ≠ gb250003) ∧ (gb250004 ≠ s_) ∧ (s_ ≠ gb250004) ∧ (Below w.heap.size w w')) ?_ ?_
        rotate_left
        ·intro hJ3
         refine join_ (σ := Nat) 4 #[true, false, true, false, true, false, false] (fun s_ => [(8, .pointer (some ⟨s_, 0, none⟩))]) (fun s_ w' => (w'.cell? ⟨gb250001, 0, none⟩ = some (.string a0_0) ∧ w'.cell? ⟨gb250001, 1, none⟩ = some (.int .i64 a0_1)) ∧ (w'.heap[gb250001]? = some (.cells #[.string a0_0, .int .i64 a0_1] 23 (0, 0))) ∧ (w'.heap[gb250002]? = some (.cells #[.slice none 0 0] 24 (0, 0))) ∧ (w'.heap[gb250003]? = some (.cells #[.string (⟨#[]⟩ : ByteArray), .int .i64 0] 23 (0, 0))) ∧ (w'.heap[gb250004]? = some (.cells #[.int .i64 0] 31 (0, 0))) ∧ (w'.heap[s_]? = some (.cells #[.string (⟨#[]⟩ : ByteArray), .int .i64 0] 23 (0, 0))) ∧ (w.heap.size ≤ s_) ∧ (w.heap.size ≤ s_) ∧ (gb250001 ≠ s_) ∧ (s_ ≠ gb250001) ∧ (gb250002 ≠ s_) ∧ (s_ ≠ gb250002) ∧ (gb250003 ≠ s_) ∧ (s_ ≠ gb250003) ∧ (gb250004 ≠ s_) ∧ (s_ ≠ gb250004) ∧ (Below w.heap.size w w')) ?_ ?_
         rotate_left
         ·intro hJ4
          refine three_ (i := 1) (j := 3) (k := 4) (Ni := some 24) (Nj := some 7) (Nk := some 8) #[true, true, true, false, false, false, false] #[true, false, true, true, false, false, false] #[true, false, true, false, true, false, false] rfl rfl rfl rfl rfl rfl (by kernel_rfl) (by decide) (by decide) (by decide) (fun K hK => ?_) (fun K hK => ?_) (fun K hK => ?_)
          ·skip
           refine goes_ Try.func45 (by kernel_rfl) rfl #[.slice A1 l1.length c1] (by rfl) rfl rfl (by (try simp only [List.map_toArray, List.map_cons, List.map_nil]); first | done | rfl | (simp only [List.length_drop, List.length_take]; rfl)) ?_
           with_reducible refine (slices_Clone_int_int.calls _ _ l1 t250006 _ ?side1 ?side2 A20.out).mono ?_
           (case side1 => repeat (first | exact (Kd.C_below HR1.out HB.out) | (with_reducible refine Kd.C_alloc ?_ _) | (with_reducible refine Kd.C_drewN ?_ _) | (with_reducible refine Kd.C_drew ?_)))
           (case side2 => exact HC1.out)
           rintro e w31 ⟨v250007, rfl, ho0, hb⟩
           refine ⟨_, rfl, ?_⟩
           have n0_ := Aside0.mk (Kd.R_lower ho0 (below_size (by repeat (first | (with_reducible first | exact HB.out | apply below_alloc | apply pw_below_drewN | apply below_drew1 | refine below_set ?_ GE250001.out | refine below_set ?_ GE250002.out | refine below_set ?_ GE250003.out | refine below_set ?_ GE250004.out) | exact HB.out))))
           have n1_ := Aside0.mk (blk_below (g := gb250001) (o := .cells #[.string a0_0, .int .i64 a0_1] 23 (0, 0)) (by (with_reducible repeat (first | refine blk_drewN ?_ _ | refine blk_drew ?_ | refine blk_alloc ?_ _)); exact BK250001.out) hb)
           have n2_ := Aside0.mk (blk_below (g := gb250002) (o := .cells #[.slice none 0 0] 24 (0, 0)) (by (with_reducible repeat (first | refine blk_drewN ?_ _ | refine blk_drew ?_ | refine blk_alloc ?_ _)); exact BK250002.out) hb)
           have n3_ := Aside0.mk (blk_below (g := gb250003) (o := .cells #[.string (⟨#[]⟩ : ByteArray), .int .i64 0] 23 (0, 0)) (by (with_reducible repeat (first | refine blk_drewN ?_ _ | refine blk_drew ?_ | refine blk_alloc ?_ _)); exact BK250003.out) hb)
           have n4_ := Aside0.mk (blk_below (g := gb250004) (o := .cells #[.int .i64 0] 31 (0, 0)) (by (with_reducible repeat (first | refine blk_drewN ?_ _ | refine blk_drew ?_ | refine blk_alloc ?_ _)); exact BK250004.out) hb)
           have n5_ := Aside0.mk (below_step (by repeat (first | (with_reducible first | exact HB.out | apply below_alloc | apply pw_below_drewN | apply below_drew1 | refine below_set ?_ GE250001.out | refine below_set ?_ GE250002.out | refine below_set ?_ GE250003.out | refine below_set ?_ GE250004.out) | exact HB.out)) hb)
           clear BK250001
           clear BK250002
           clear BK250003
           clear BK250004
           clear HB
           have HO250008 := n0_
           have BK250001 := n1_
           have BK250002 := n2_
           have BK250003 := n3_
           have BK250004 := n4_
           have HB := n5_
           clear n0_ n1_ n2_ n3_ n4_ n5_
           (try clear hb)
           (try clear hb2)
           (try clear hk)
           (try clear hi)
           (try clear ho0)
           refine hK.out _ _ ⟨(blk_cell BK250001.out 0).trans rfl, (blk_cell BK250001.out 1).trans rfl⟩ (fun hHeld => ?_)
           clear hK K
           refine norm_ (a' := ?_) ?_ ?_
           rotate_left
           ·show Act.put _ (some 24) _ = _
            simp only [Act.put, List.setIfInBounds_toArray, List.set_cons_zero, List.set_cons_succ, i64_w, i32_w]
            rfl
           exact norm_ (by first | (simp only [putAll, Act.put, List.setIfInBounds_toArray, List.set_cons_zero, List.set_cons_succ]; done) | (simp only [putAll, Act.put, List.setIfInBounds_toArray, List.set_cons_zero, List.set_cons_succ]; rfl)) (hJ1 (v250007) _ ⟨hHeld, (by (with_reducible repeat (first | apply Kd.R_alloc | apply Kd.R_drewN | apply Kd.R_drew)); exact HO250008.out), (by (with_reducible repeat (first | refine blk_drewN ?_ _ | refine blk_drew ?_ | refine blk_alloc ?_ _)); exact BK250001.out), (by (with_reducible repeat (first | refine blk_drewN ?_ _ | refine blk_drew ?_ | refine blk_alloc ?_ _)); exact BK250002.out), (by (with_reducible repeat (first | refine blk_drewN ?_ _ | refine blk_drew ?_ | refine blk_alloc ?_ _)); exact BK250003.out), (by (with_reducible repeat (first | refine blk_drewN ?_ _ | refine blk_drew ?_ | refine blk_alloc ?_ _)); exact BK250004.out), (by repeat (first | (with_reducible first | exact HB.out | apply below_alloc | apply pw_below_drewN | apply below_drew1 | refine below_set ?_ GE250001.out | refine below_set ?_ GE250002.out | refine below_set ?_ GE250003.out | refine below_set ?_ GE250004.out) | exact HB.out))⟩)
          ·skip
           refine box_step ?hg (N := 7) ?hd (cs := #[.slice none 0 0]) (t := 24) ?hr ?_; (case hd => rfl); (case hg => rfl); (case hr => first | (go_simp; done) | (go_simp; rfl))
           intro gb250009 hg w31 hbox hb
           have n0_ := Aside0.mk (blk_below (g := gb250001) (o := .cells #[.string a0_0, .int .i64 a0_1] 23 (0, 0)) (by (with_reducible repeat (first | refine blk_drewN ?_ _ | refine blk_drew ?_ | refine blk_alloc ?_ _)); exact BK250001.out) hb)
           have n1_ := Aside0.mk (blk_below (g := gb250002) (o := .cells #[.slice none 0 0] 24 (0, 0)) (by (with_reducible repeat (first | refine blk_drewN ?_ _ | refine blk_drew ?_ | refine blk_alloc ?_ _)); exact BK250002.out) hb)
           have n2_ := Aside0.mk (blk_below (g := gb250003) (o := .cells #[.string (⟨#[]⟩ : ByteArray), .int .i64 0] 23 (0, 0)) (by (with_reducible repeat (first | refine blk_drewN ?_ _ | refine blk_drew ?_ | refine blk_alloc ?_ _)); exact BK250003.out) hb)
           have n3_ := Aside0.mk (blk_below (g := gb250004) (o := .cells #[.int .i64 0] 31 (0, 0)) (by (with_reducible repeat (first | refine blk_drewN ?_ _ | refine blk_drew ?_ | refine blk_alloc ?_ _)); exact BK250004.out) hb)
           have n4_ := Aside0.mk (below_step (by repeat (first | (with_reducible first | exact HB.out | apply below_alloc | apply pw_below_drewN | apply below_drew1 | refine below_set ?_ GE250001.out | refine below_set ?_ GE250002.out | refine below_set ?_ GE250003.out | refine below_set ?_ GE250004.out) | exact HB.out)) hb)
           have n5_ := Aside0.mk (hbox)
           have n6_ := Aside0.mk ((by rw [hg]; exact (below_size (by repeat (first | (with_reducible first | exact HB.out | apply below_alloc | apply pw_below_drewN | apply below_drew1 | refine below_set ?_ GE250001.out | refine below_set ?_ GE250002.out | refine below_set ?_ GE250003.out | refine below_set ?_ GE250004.out) | exact HB.out))) : w.heap.size ≤ gb250009))
           have n7_ := Aside0.mk ((by rw [hg]; exact (below_size (by repeat (first | (with_reducible first | exact HB.out | apply below_alloc | apply pw_below_drewN | apply below_drew1 | refine below_set ?_ GE250001.out | refine below_set ?_ GE250002.out | refine below_set ?_ GE250003.out | refine below_set ?_ GE250004.out) | exact HB.out))) : w.heap.size ≤ gb250009))
           have n8_ := Aside0.mk ((by rw [hg]; exact Nat.ne_of_lt (blk_lt (g := gb250001) (o := .cells #[.string a0_0, .int .i64 a0_1] 23 (0, 0)) (by (with_reducible repeat (first | refine blk_drewN ?_ _ | refine blk_drew ?_ | refine blk_alloc ?_ _)); exact BK250001.out)) : gb250001 ≠ gb250009))
           have n9_ := Aside0.mk ((by rw [hg]; exact Nat.ne_of_gt (blk_lt (g := gb250001) (o := .cells #[.string a0_0, .int .i64 a0_1] 23 (0, 0)) (by (with_reducible repeat (first | refine blk_drewN ?_ _ | refine blk_drew ?_ | refine blk_alloc ?_ _)); exact BK250001.out)) : gb250009 ≠ gb250001))
           have n10_ := Aside0.mk ((by rw [hg]; exact Nat.ne_of_lt (blk_lt (g := gb250002) (o := .cells #[.slice none 0 0] 24 (0, 0)) (by (with_reducible repeat (first | refine blk_drewN ?_ _ | refine blk_drew ?_ | refine blk_alloc ?_ _)); exact BK250002.out)) : gb250002 ≠ gb250009))
           have n11_ := Aside0.mk ((by rw [hg]; exact Nat.ne_of_gt (blk_lt (g := gb250002) (o := .cells #[.slice none 0 0] 24 (0, 0)) (by (with_reducible repeat (first | refine blk_drewN ?_ _ | refine blk_drew ?_ | refine blk_alloc ?_ _)); exact BK250002.out)) : gb250009 ≠ gb250002))
           have n12_ := Aside0.mk ((by rw [hg]; exact Nat.ne_of_lt (blk_lt (g := gb250003) (o := .cells #[.string (⟨#[]⟩ : ByteArray), .int .i64 0] 23 (0, 0)) (by (with_reducible repeat (first | refine blk_drewN ?_ _ | refine blk_drew ?_ | refine blk_alloc ?_ _)); exact BK250003.out)) : gb250003 ≠ gb250009))
           have n13_ := Aside0.mk ((by rw [hg]; exact Nat.ne_of_gt (blk_lt (g := gb250003) (o := .cells #[.string (⟨#[]⟩ : ByteArray), .int .i64 0] 23 (0, 0)) (by (with_reducible repeat (first | refine blk_drewN ?_ _ | refine blk_drew ?_ | refine blk_alloc ?_ _)); exact BK250003.out)) : gb250009 ≠ gb250003))
           have n14_ := Aside0.mk ((by rw [hg]; exact Nat.ne_of_lt (blk_lt (g := gb250004) (o := .cells #[.int .i64 0] 31 (0, 0)) (by (with_reducible repeat (first | refine blk_drewN ?_ _ | refine blk_drew ?_ | refine blk_alloc ?_ _)); exact BK250004.out)) : gb250004 ≠ gb250009))
           have n15_ := Aside0.mk ((by rw [hg]; exact Nat.ne_of_gt (blk_lt (g := gb250004) (o := .cells #[.int .i64 0] 31 (0, 0)) (by (with_reducible repeat (first | refine blk_drewN ?_ _ | refine blk_drew ?_ | refine blk_alloc ?_ _)); exact BK250004.out)) : gb250009 ≠ gb250004))
           clear BK250001
           clear BK250002
           clear BK250003
           clear BK250004
           clear HB
           have BK250001 := n0_
           have BK250002 := n1_
           have BK250003 := n2_
           have BK250004 := n3_
           have HB := n4_
           have BK250009 := n5_
           have GW250009 := n6_
           have GE250009 := n7_
           have NB250001_250009 := n8_
           have NB250009_250001 := n9_
           have NB250002_250009 := n10_
           have NB250009_250002 := n11_
           have NB250003_250009 := n12_
           have NB250009_250003 := n13_
           have NB250004_250009 := n14_
           have NB250009_250004 := n15_
           clear n0_ n1_ n2_ n3_ n4_ n5_ n6_ n7_ n8_ n9_ n10_ n11_ n12_ n13_ n14_ n15_
           clear hb hbox hg
           refine hK.out _ _ ⟨(blk_cell BK250001.out 0).trans rfl, (blk_cell BK250001.out 1).trans rfl⟩ (fun hHeld => ?_)
           clear hK K
           refine norm_ (a' := ?_) ?_ ?_
           rotate_left
           ·show Act.put _ (some 7) _ = _
            simp only [Act.put, List.setIfInBounds_toArray, List.set_cons_zero, List.set_cons_succ, i64_w, i32_w]
            rfl
           exact norm_ (by first | (simp only [putAll, Act.put, List.setIfInBounds_toArray, List.set_cons_zero, List.set_cons_succ]; done) | (simp only [putAll, Act.put, List.setIfInBounds_toArray, List.set_cons_zero, List.set_cons_succ]; rfl)) (hJ3 (gb250009) _ ⟨hHeld, (by (with_reducible repeat (first | refine blk_drewN ?_ _ | refine blk_drew ?_ | refine blk_alloc ?_ _)); exact BK250001.out), (by (with_reducible repeat (first | refine blk_drewN ?_ _ | refine blk_drew ?_ | refine blk_alloc ?_ _)); exact BK250002.out), (by (with_reducible repeat (first | refine blk_drewN ?_ _ | refine blk_drew ?_ | refine blk_alloc ?_ _)); exact BK250003.out), (by (with_reducible repeat (first | refine blk_drewN ?_ _ | refine blk_drew ?_ | refine blk_alloc ?_ _)); exact BK250004.out), (by (with_reducible repeat (first | refine blk_drewN ?_ _ | refine blk_drew ?_ | refine blk_alloc ?_ _)); exact BK250009.out), GW250009.out, GE250009.out, NB250001_250009.out, NB250009_250001.out, NB250002_250009.out, NB250009_250002.out, NB250003_250009.out, NB250009_250003.out, NB250004_250009.out, NB250009_250004.out, (by repeat (first | (with_reducible first | exact HB.out | apply below_alloc | apply pw_below_drewN | apply below_drew1 | refine below_set ?_ GE250001.out | refine below_set ?_ GE250002.out | refine below_set ?_ GE250003.out | refine below_set ?_ GE250004.out | refine below_set ?_ GE250009.out) | exact HB.out))⟩)
          ·skip
           refine box_step ?hg (N := 8) ?hd (cs := #[.string (⟨#[]⟩ : ByteArray), .int .i64 0]) (t := 23) ?hr ?_; (case hd => rfl); (case hg => rfl); (case hr => first | (go_simp; done) | (go_simp; rfl))
           intro gb250010 hg w31 hbox hb
           have n0_ := Aside0.mk (blk_below (g := gb250001) (o := .cells #[.string a0_0, .int .i64 a0_1] 23 (0, 0)) (by (with_reducible repeat (first | refine blk_drewN ?_ _ | refine blk_drew ?_ | refine blk_alloc ?_ _)); exact BK250001.out) hb)
           have n1_ := Aside0.mk (blk_below (g := gb250002) (o := .cells #[.slice none 0 0] 24 (0, 0)) (by (with_reducible repeat (first | refine blk_drewN ?_ _ | refine blk_drew ?_ | refine blk_alloc ?_ _)); exact BK250002.out) hb)
           have n2_ := Aside0.mk (blk_below (g := gb250003) (o := .cells #[.string (⟨#[]⟩ : ByteArray), .int .i64 0] 23 (0, 0)) (by (with_reducible repeat (first | refine blk_drewN ?_ _ | refine blk_drew ?_ | refine blk_alloc ?_ _)); exact BK250003.out) hb)
           have n3_ := Aside0.mk (blk_below (g := gb250004) (o := .cells #[.int .i64 0] 31 (0, 0)) (by (with_reducible repeat (first | refine blk_drewN ?_ _ | refine blk_drew ?_ | refine blk_alloc ?_ _)); exact BK250004.out) hb)
           have n4_ := Aside0.mk (below_step (by repeat (first | (with_reducible first | exact HB.out | apply below_alloc | apply pw_below_drewN | apply below_drew1 | refine below_set ?_ GE250001.out | refine below_set ?_ GE250002.out | refine below_set ?_ GE250003.out | refine below_set ?_ GE250004.out) | exact HB.out)) hb)
           have n5_ := Aside0.mk (hbox)
           have n6_ := Aside0.mk ((by rw [hg]; exact (below_size (by repeat (first | (with_reducible first | exact HB.out | apply below_alloc | apply pw_below_drewN | apply below_drew1 | refine below_set ?_ GE250001.out | refine below_set ?_ GE250002.out | refine below_set ?_ GE250003.out | refine below_set ?_ GE250004.out) | exact HB.out))) : w.heap.size ≤ gb250010))
           have n7_ := Aside0.mk ((by rw [hg]; exact (below_size (by repeat (first | (with_reducible first | exact HB.out | apply below_alloc | apply pw_below_drewN | apply below_drew1 | refine below_set ?_ GE250001.out | refine below_set ?_ GE250002.out | refine below_set ?_ GE250003.out | refine below_set ?_ GE250004.out) | exact HB.out))) : w.heap.size ≤ gb250010))
           have n8_ := Aside0.mk ((by rw [hg]; exact Nat.ne_of_lt (blk_lt (g := gb250001) (o := .cells #[.string a0_0, .int .i64 a0_1] 23 (0, 0)) (by (with_reducible repeat (first | refine blk_drewN ?_ _ | refine blk_drew ?_ | refine blk_alloc ?_ _)); exact BK250001.out)) : gb250001 ≠ gb250010))
           have n9_ := Aside0.mk ((by rw [hg]; exact Nat.ne_of_gt (blk_lt (g := gb250001) (o := .cells #[.string a0_0, .int .i64 a0_1] 23 (0, 0)) (by (with_reducible repeat (first | refine blk_drewN ?_ _ | refine blk_drew ?_ | refine blk_alloc ?_ _)); exact BK250001.out)) : gb250010 ≠ gb250001))
           have n10_ := Aside0.mk ((by rw [hg]; exact Nat.ne_of_lt (blk_lt (g := gb250002) (o := .cells #[.slice none 0 0] 24 (0, 0)) (by (with_reducible repeat (first | refine blk_drewN ?_ _ | refine blk_drew ?_ | refine blk_alloc ?_ _)); exact BK250002.out)) : gb250002 ≠ gb250010))
           have n11_ := Aside0.mk ((by rw [hg]; exact Nat.ne_of_gt (blk_lt (g := gb250002) (o := .cells #[.slice none 0 0] 24 (0, 0)) (by (with_reducible repeat (first | refine blk_drewN ?_ _ | refine blk_drew ?_ | refine blk_alloc ?_ _)); exact BK250002.out)) : gb250010 ≠ gb250002))
           have n12_ := Aside0.mk ((by rw [hg]; exact Nat.ne_of_lt (blk_lt (g := gb250003) (o := .cells #[.string (⟨#[]⟩ : ByteArray), .int .i64 0] 23 (0, 0)) (by (with_reducible repeat (first | refine blk_drewN ?_ _ | refine blk_drew ?_ | refine blk_alloc ?_ _)); exact BK250003.out)) : gb250003 ≠ gb250010))
           have n13_ := Aside0.mk ((by rw [hg]; exact Nat.ne_of_gt (blk_lt (g := gb250003) (o := .cells #[.string (⟨#[]⟩ : ByteArray), .int .i64 0] 23 (0, 0)) (by (with_reducible repeat (first | refine blk_drewN ?_ _ | refine blk_drew ?_ | refine blk_alloc ?_ _)); exact BK250003.out)) : gb250010 ≠ gb250003))
           have n14_ := Aside0.mk ((by rw [hg]; exact Nat.ne_of_lt (blk_lt (g := gb250004) (o := .cells #[.int .i64 0] 31 (0, 0)) (by (with_reducible repeat (first | refine blk_drewN ?_ _ | refine blk_drew ?_ | refine blk_alloc ?_ _)); exact BK250004.out)) : gb250004 ≠ gb250010))
           have n15_ := Aside0.mk ((by rw [hg]; exact Nat.ne_of_gt (blk_lt (g := gb250004) (o := .cells #[.int .i64 0] 31 (0, 0)) (by (with_reducible repeat (first | refine blk_drewN ?_ _ | refine blk_drew ?_ | refine blk_alloc ?_ _)); exact BK250004.out)) : gb250010 ≠ gb250004))
           clear BK250001
           clear BK250002
           clear BK250003
           clear BK250004
           clear HB
           have BK250001 := n0_
           have BK250002 := n1_
           have BK250003 := n2_
           have BK250004 := n3_
           have HB := n4_
           have BK250010 := n5_
           have GW250010 := n6_
           have GE250010 := n7_
           have NB250001_250010 := n8_
           have NB250010_250001 := n9_
           have NB250002_250010 := n10_
           have NB250010_250002 := n11_
           have NB250003_250010 := n12_
           have NB250010_250003 := n13_
           have NB250004_250010 := n14_
           have NB250010_250004 := n15_
           clear n0_ n1_ n2_ n3_ n4_ n5_ n6_ n7_ n8_ n9_ n10_ n11_ n12_ n13_ n14_ n15_
           clear hb hbox hg
           refine hK.out _ _ ⟨(blk_cell BK250001.out 0).trans rfl, (blk_cell BK250001.out 1).trans rfl⟩ (fun hHeld => ?_)
           clear hK K
           refine norm_ (a' := ?_) ?_ ?_
           rotate_left
           ·show Act.put _ (some 8) _ = _
            simp only [Act.put, List.setIfInBounds_toArray, List.set_cons_zero, List.set_cons_succ, i64_w, i32_w]
            rfl
           exact norm_ (by first | (simp only [putAll, Act.put, List.setIfInBounds_toArray, List.set_cons_zero, List.set_cons_succ]; done) | (simp only [putAll, Act.put, List.setIfInBounds_toArray, List.set_cons_zero, List.set_cons_succ]; rfl)) (hJ4 (gb250010) _ ⟨hHeld, (by (with_reducible repeat (first | refine blk_drewN ?_ _ | refine blk_drew ?_ | refine blk_alloc ?_ _)); exact BK250001.out), (by (with_reducible repeat (first | refine blk_drewN ?_ _ | refine blk_drew ?_ | refine blk_alloc ?_ _)); exact BK250002.out), (by (with_reducible repeat (first | refine blk_drewN ?_ _ | refine blk_drew ?_ | refine blk_alloc ?_ _)); exact BK250003.out), (by (with_reducible repeat (first | refine blk_drewN ?_ _ | refine blk_drew ?_ | refine blk_alloc ?_ _)); exact BK250004.out), (by (with_reducible repeat (first | refine blk_drewN ?_ _ | refine blk_drew ?_ | refine blk_alloc ?_ _)); exact BK250010.out), GW250010.out, GE250010.out, NB250001_250010.out, NB250010_250001.out, NB250002_250010.out, NB250010_250002.out, NB250003_250010.out, NB250010_250003.out, NB250004_250010.out, NB250010_250004.out, (by repeat (first | (with_reducible first | exact HB.out | apply below_alloc | apply pw_below_drewN | apply below_drew1 | refine below_set ?_ GE250001.out | refine below_set ?_ GE250002.out | refine below_set ?_ GE250003.out | refine below_set ?_ GE250004.out | refine below_set ?_ GE250010.out) | exact HB.out))⟩)
         ·skip
          rintro gb250010 w32 ⟨hS_, h0_, h1_, h2_, h3_, h4_, h5_, h6_, h7_, h8_, h9_, h10_, h11_, h12_, h13_, h14_, h15_⟩
          have n0_ : Aside0 (w32.heap[gb250001]? = some (.cells #[.string a0_0, .int .i64 a0_1] 23 (0, 0))) := ⟨h0_⟩
          have n1_ : Aside0 (w32.heap[gb250002]? = some (.cells #[.slice none 0 0] 24 (0, 0))) := ⟨h1_⟩
          have n2_ : Aside0 (w32.heap[gb250003]? = some (.cells #[.string (⟨#[]⟩ : ByteArray), .int .i64 0] 23 (0, 0))) := ⟨h2_⟩
          have n3_ : Aside0 (w32.heap[gb250004]? = some (.cells #[.int .i64 0] 31 (0, 0))) := ⟨h3_⟩
          have n4_ : Aside0 (w32.heap[gb250010]? = some (.cells #[.string (⟨#[]⟩ : ByteArray), .int .i64 0] 23 (0, 0))) := ⟨h4_⟩
          have n5_ : Aside0 (w.heap.size ≤ gb250010) := ⟨h5_⟩
          have n6_ : Aside0 (w.heap.size ≤ gb250010) := ⟨h6_⟩
          have n7_ : Aside0 (gb250001 ≠ gb250010) := ⟨h7_⟩
          have n8_ : Aside0 (gb250010 ≠ gb250001) := ⟨h8_⟩
          have n9_ : Aside0 (gb250002 ≠ gb250010) := ⟨h9_⟩
          have n10_ : Aside0 (gb250010 ≠ gb250002) := ⟨h10_⟩
          have n11_ : Aside0 (gb250003 ≠ gb250010) := ⟨h11_⟩
          have n12_ : Aside0 (gb250010 ≠ gb250003) := ⟨h12_⟩
          have n13_ : Aside0 (gb250004 ≠ gb250010) := ⟨h13_⟩
          have n14_ : Aside0 (gb250010 ≠ gb250004) := ⟨h14_⟩
          have n15_ : Aside0 (Below w.heap.size w w32) := ⟨h15_⟩
          clear BK250001
          clear BK250002
          clear BK250003
          clear BK250004
          clear HB
          clear h0_ h1_ h2_ h3_ h4_ h5_ h6_ h7_ h8_ h9_ h10_ h11_ h12_ h13_ h14_ h15_
          have BK250001 := n0_
          have BK250002 := n1_
          have BK250003 := n2_
          have BK250004 := n3_
          have BK250010 := n4_
          have GW250010 := n5_
          have GE250010 := n6_
          have NB250001_250010 := n7_
          have NB250010_250001 := n8_
          have NB250002_250010 := n9_
          have NB250010_250002 := n10_
          have NB250003_250010 := n11_
          have NB250010_250003 := n12_
          have NB250004_250010 := n13_
          have NB250010_250004 := n14_
          have HB := n15_
          clear n0_ n1_ n2_ n3_ n4_ n5_ n6_ n7_ n8_ n9_ n10_ n11_ n12_ n13_ n14_ n15_
          have hHeld : w32.cell? ⟨gb250001, 0, none⟩ = some (.string a0_0) ∧ w32.cell? ⟨gb250001, 1, none⟩ = some (.int .i64 a0_1) := hS_
          refine norm_ (a' := ?_) ?_ ?_
          rotate_left
          ·simp only [putAll, Act.put, List.setIfInBounds_toArray, List.set_cons_zero, List.set_cons_succ]
           rfl
          refine two_ (i := 1) (j := 3) (Ni := some 24) (Nj := some 7) #[true, true, true, false, true, false, false] #[true, false, true, true, true, false, false] rfl rfl rfl rfl (by kernel_rfl) (by decide) (by decide) (fun K hK => ?_) (fun K hK => ?_)
          ·skip
           refine goes_ Try.func45 (by kernel_rfl) rfl #[.slice A1 l1.length c1] (by rfl) rfl rfl (by (try simp only [List.map_toArray, List.map_cons, List.map_nil]); first | done | rfl | (simp only [List.length_drop, List.length_take]; rfl)) ?_
           with_reducible refine (slices_Clone_int_int.calls _ _ l1 t250006 _ ?side1 ?side2 A20.out).mono ?_
           (case side1 => repeat (first | exact (Kd.C_below HR1.out HB.out) | (with_reducible refine Kd.C_alloc ?_ _) | (with_reducible refine Kd.C_drewN ?_ _) | (with_reducible refine Kd.C_drew ?_)))
           (case side2 => exact HC1.out)
           rintro e w33 ⟨v250007, rfl, ho0, hb⟩
           refine ⟨_, rfl, ?_⟩
           have n0_ := Aside0.mk (Kd.R_lower ho0 (below_size (by repeat (first | (with_reducible first | exact HB.out | apply below_alloc | apply pw_below_drewN | apply below_drew1 | refine below_set ?_ GE250001.out | refine below_set ?_ GE250002.out | refine below_set ?_ GE250003.out | refine below_set ?_ GE250004.out | refine below_set ?_ GE250010.out) | exact HB.out))))
           have n1_ := Aside0.mk (blk_below (g := gb250001) (o := .cells #[.string a0_0, .int .i64 a0_1] 23 (0, 0)) (by (with_reducible repeat (first | refine blk_drewN ?_ _ | refine blk_drew ?_ | refine blk_alloc ?_ _)); exact BK250001.out) hb)
           have n2_ := Aside0.mk (blk_below (g := gb250002) (o := .cells #[.slice none 0 0] 24 (0, 0)) (by (with_reducible repeat (first | refine blk_drewN ?_ _ | refine blk_drew ?_ | refine blk_alloc ?_ _)); exact BK250002.out) hb)
           have n3_ := Aside0.mk (blk_below (g := gb250003) (o := .cells #[.string (⟨#[]⟩ : ByteArray), .int .i64 0] 23 (0, 0)) (by (with_reducible repeat (first | refine blk_drewN ?_ _ | refine blk_drew ?_ | refine blk_alloc ?_ _)); exact BK250003.out) hb)
           have n4_ := Aside0.mk (blk_below (g := gb250004) (o := .cells #[.int .i64 0] 31 (0, 0)) (by (with_reducible repeat (first | refine blk_drewN ?_ _ | refine blk_drew ?_ | refine blk_alloc ?_ _)); exact BK250004.out) hb)
           have n5_ := Aside0.mk (blk_below (g := gb250010) (o := .cells #[.string (⟨#[]⟩ : ByteArray), .int .i64 0] 23 (0, 0)) (by (with_reducible repeat (first | refine blk_drewN ?_ _ | refine blk_drew ?_ | refine blk_alloc ?_ _)); exact BK250010.out) hb)
           have n6_ := Aside0.mk (below_step (by repeat (first | (with_reducible first | exact HB.out | apply below_alloc | apply pw_below_drewN | apply below_drew1 | refine below_set ?_ GE250001.out | refine below_set ?_ GE250002.out | refine below_set ?_ GE250003.out | refine below_set ?_ GE250004.out | refine below_set ?_ GE250010.out) | exact HB.out)) hb)
           clear BK250001
           clear BK250002
           clear BK250003
           clear BK250004
           clear BK250010
           clear HB
           have HO250008 := n0_
           have BK250001 := n1_
           have BK250002 := n2_
           have BK250003 := n3_
           have BK250004 := n4_
           have BK250010 := n5_
           have HB := n6_
           clear n0_ n1_ n2_ n3_ n4_ n5_ n6_
           (try clear hb)
           (try clear hb2)
           (try clear hk)
           (try clear hi)
           (try clear ho0)
           refine hK.out _ _ ⟨(blk_cell BK250001.out 0).trans rfl, (blk_cell BK250001.out 1).trans rfl⟩ (fun hHeld => ?_)
           clear hK K
           refine norm_ (a' := ?_) ?_ ?_
           rotate_left
           ·show Act.put _ (some 24) _ = _
            simp only [Act.put, List.setIfInBounds_toArray, List.set_cons_zero, List.set_cons_succ, i64_w, i32_w]
            rfl
           exact norm_ (by first | (simp only [putAll, Act.put, List.setIfInBounds_toArray, List.set_cons_zero, List.set_cons_succ]; done) | (simp only [putAll, Act.put, List.setIfInBounds_toArray, List.set_cons_zero, List.set_cons_succ]; rfl)) (hJ1_4 (v250007, gb250010) _ ⟨hHeld, (by (with_reducible repeat (first | apply Kd.R_alloc | apply Kd.R_drewN | apply Kd.R_drew)); exact HO250008.out), (by (with_reducible repeat (first | refine blk_drewN ?_ _ | refine blk_drew ?_ | refine blk_alloc ?_ _)); exact BK250001.out), (by (with_reducible repeat (first | refine blk_drewN ?_ _ | refine blk_drew ?_ | refine blk_alloc ?_ _)); exact BK250002.out), (by (with_reducible repeat (first | refine blk_drewN ?_ _ | refine blk_drew ?_ | refine blk_alloc ?_ _)); exact BK250003.out), (by (with_reducible repeat (first | refine blk_drewN ?_ _ | refine blk_drew ?_ | refine blk_alloc ?_ _)); exact BK250004.out), (by (with_reducible repeat (first | refine blk_drewN ?_ _ | refine blk_drew ?_ | refine blk_alloc ?_ _)); exact BK250010.out), GW250010.out, GE250010.out, NB250001_250010.out, NB250010_250001.out, NB250002_250010.out, NB250010_250002.out, NB250003_250010.out, NB250010_250003.out, NB250004_250010.out, NB250010_250004.out, (by repeat (first | (with_reducible first | exact HB.out | apply below_alloc | apply pw_below_drewN | apply below_drew1 | refine below_set ?_ GE250001.out | refine below_set ?_ GE250002.out | refine below_set ?_ GE250003.out | refine below_set ?_ GE250004.out | refine below_set ?_ GE250010.out) | exact HB.out))⟩)
          ·skip
           refine box_step ?hg (N := 7) ?hd (cs := #[.slice none 0 0]) (t := 24) ?hr ?_; (case hd => rfl); (case hg => rfl); (case hr => first | (go_simp; done) | (go_simp; rfl))
           intro gb250009 hg w33 hbox hb
           have n0_ := Aside0.mk (blk_below (g := gb250001) (o := .cells #[.string a0_0, .int .i64 a0_1] 23 (0, 0)) (by (with_reducible repeat (first | refine blk_drewN ?_ _ | refine blk_drew ?_ | refine blk_alloc ?_ _)); exact BK250001.out) hb)
           have n1_ := Aside0.mk (blk_below (g := gb250002) (o := .cells #[.slice none 0 0] 24 (0, 0)) (by (with_reducible repeat (first | refine blk_drewN ?_ _ | refine blk_drew ?_ | refine blk_alloc ?_ _)); exact BK250002.out) hb)
           have n2_ := Aside0.mk (blk_below (g := gb250003) (o := .cells #[.string (⟨#[]⟩ : ByteArray), .int .i64 0] 23 (0, 0)) (by (with_reducible repeat (first | refine blk_drewN ?_ _ | refine blk_drew ?_ | refine blk_alloc ?_ _)); exact BK250003.out) hb)
           have n3_ := Aside0.mk (blk_below (g := gb250004) (o := .cells #[.int .i64 0] 31 (0, 0)) (by (with_reducible repeat (first | refine blk_drewN ?_ _ | refine blk_drew ?_ | refine blk_alloc ?_ _)); exact BK250004.out) hb)
           have n4_ := Aside0.mk (blk_below (g := gb250010) (o := .cells #[.string (⟨#[]⟩ : ByteArray), .int .i64 0] 23 (0, 0)) (by (with_reducible repeat (first | refine blk_drewN ?_ _ | refine blk_drew ?_ | refine blk_alloc ?_ _)); exact BK250010.out) hb)
           have n5_ := Aside0.mk (below_step (by repeat (first | (with_reducible first | exact HB.out | apply below_alloc | apply pw_below_drewN | apply below_drew1 | refine below_set ?_ GE250001.out | refine below_set ?_ GE250002.out | refine below_set ?_ GE250003.out | refine below_set ?_ GE250004.out | refine below_set ?_ GE250010.out) | exact HB.out)) hb)
           have n6_ := Aside0.mk (hbox)
           have n7_ := Aside0.mk ((by rw [hg]; exact (below_size (by repeat (first | (with_reducible first | exact HB.out | apply below_alloc | apply pw_below_drewN | apply below_drew1 | refine below_set ?_ GE250001.out | refine below_set ?_ GE250002.out | refine below_set ?_ GE250003.out | refine below_set ?_ GE250004.out | refine below_set ?_ GE250010.out) | exact HB.out))) : w.heap.size ≤ gb250009))
           have n8_ := Aside0.mk ((by rw [hg]; exact (below_size (by repeat (first | (with_reducible first | exact HB.out | apply below_alloc | apply pw_below_drewN | apply below_drew1 | refine below_set ?_ GE250001.out | refine below_set ?_ GE250002.out | refine below_set ?_ GE250003.out | refine below_set ?_ GE250004.out | refine below_set ?_ GE250010.out) | exact HB.out))) : w.heap.size ≤ gb250009))
           have n9_ := Aside0.mk ((by rw [hg]; exact Nat.ne_of_lt (blk_lt (g := gb250001) (o := .cells #[.string a0_0, .int .i64 a0_1] 23 (0, 0)) (by (with_reducible repeat (first | refine blk_drewN ?_ _ | refine blk_drew ?_ | refine blk_alloc ?_ _)); exact BK250001.out)) : gb250001 ≠ gb250009))
           have n10_ := Aside0.mk ((by rw [hg]; exact Nat.ne_of_gt (blk_lt (g := gb250001) (o := .cells #[.string a0_0, .int .i64 a0_1] 23 (0, 0)) (by (with_reducible repeat (first | refine blk_drewN ?_ _ | refine blk_drew ?_ | refine blk_alloc ?_ _)); exact BK250001.out)) : gb250009 ≠ gb250001))
           have n11_ := Aside0.mk ((by rw [hg]; exact Nat.ne_of_lt (blk_lt (g := gb250002) (o := .cells #[.slice none 0 0] 24 (0, 0)) (by (with_reducible repeat (first | refine blk_drewN ?_ _ | refine blk_drew ?_ | refine blk_alloc ?_ _)); exact BK250002.out)) : gb250002 ≠ gb250009))
           have n12_ := Aside0.mk ((by rw [hg]; exact Nat.ne_of_gt (blk_lt (g := gb250002) (o := .cells #[.slice none 0 0] 24 (0, 0)) (by (with_reducible repeat (first | refine blk_drewN ?_ _ | refine blk_drew ?_ | refine blk_alloc ?_ _)); exact BK250002.out)) : gb250009 ≠ gb250002))
           have n13_ := Aside0.mk ((by rw [hg]; exact Nat.ne_of_lt (blk_lt (g := gb250003) (o := .cells #[.string (⟨#[]⟩ : ByteArray), .int .i64 0] 23 (0, 0)) (by (with_reducible repeat (first | refine blk_drewN ?_ _ | refine blk_drew ?_ | refine blk_alloc ?_ _)); exact BK250003.out)) : gb250003 ≠ gb250009))
           have n14_ := Aside0.mk ((by rw [hg]; exact Nat.ne_of_gt (blk_lt (g := gb250003) (o := .cells #[.string (⟨#[]⟩ : ByteArray), .int .i64 0] 23 (0, 0)) (by (with_reducible repeat (first | refine blk_drewN ?_ _ | refine blk_drew ?_ | refine blk_alloc ?_ _)); exact BK250003.out)) : gb250009 ≠ gb250003))
           have n15_ := Aside0.mk ((by rw [hg]; exact Nat.ne_of_lt (blk_lt (g := gb250004) (o := .cells #[.int .i64 0] 31 (0, 0)) (by (with_reducible repeat (first | refine blk_drewN ?_ _ | refine blk_drew ?_ | refine blk_alloc ?_ _)); exact BK250004.out)) : gb250004 ≠ gb250009))
           have n16_ := Aside0.mk ((by rw [hg]; exact Nat.ne_of_gt (blk_lt (g := gb250004) (o := .cells #[.int .i64 0] 31 (0, 0)) (by (with_reducible repeat (first | refine blk_drewN ?_ _ | refine blk_drew ?_ | refine blk_alloc ?_ _)); exact BK250004.out)) : gb250009 ≠ gb250004))
           have n17_ := Aside0.mk ((by rw [hg]; exact Nat.ne_of_lt (blk_lt (g := gb250010) (o := .cells #[.string (⟨#[]⟩ : ByteArray), .int .i64 0] 23 (0, 0)) (by (with_reducible repeat (first | refine blk_drewN ?_ _ | refine blk_drew ?_ | refine blk_alloc ?_ _)); exact BK250010.out)) : gb250010 ≠ gb250009))
           have n18_ := Aside0.mk ((by rw [hg]; exact Nat.ne_of_gt (blk_lt (g := gb250010) (o := .cells #[.string (⟨#[]⟩ : ByteArray), .int .i64 0] 23 (0, 0)) (by (with_reducible repeat (first | refine blk_drewN ?_ _ | refine blk_drew ?_ | refine blk_alloc ?_ _)); exact BK250010.out)) : gb250009 ≠ gb250010))
           clear BK250001
           clear BK250002
           clear BK250003
           clear BK250004
           clear BK250010
           clear HB
           have BK250001 := n0_
           have BK250002 := n1_
           have BK250003 := n2_
           have BK250004 := n3_
           have BK250010 := n4_
           have HB := n5_
           have BK250009 := n6_
           have GW250009 := n7_
           have GE250009 := n8_
           have NB250001_250009 := n9_
           have NB250009_250001 := n10_
           have NB250002_250009 := n11_
           have NB250009_250002 := n12_
           have NB250003_250009 := n13_
           have NB250009_250003 := n14_
           have NB250004_250009 := n15_
           have NB250009_250004 := n16_
           have NB250010_250009 := n17_
           have NB250009_250010 := n18_
           clear n0_ n1_ n2_ n3_ n4_ n5_ n6_ n7_ n8_ n9_ n10_ n11_ n12_ n13_ n14_ n15_ n16_ n17_ n18_
           clear hb hbox hg
           refine hK.out _ _ ⟨(blk_cell BK250001.out 0).trans rfl, (blk_cell BK250001.out 1).trans rfl⟩ (fun hHeld => ?_)
           clear hK K
           refine norm_ (a' := ?_) ?_ ?_
           rotate_left
           ·show Act.put _ (some 7) _ = _
            simp only [Act.put, List.setIfInBounds_toArray, List.set_cons_zero, List.set_cons_succ, i64_w, i32_w]
            rfl
           exact norm_ (by first | (simp only [putAll, Act.put, List.setIfInBounds_toArray, List.set_cons_zero, List.set_cons_succ]; done) | (simp only [putAll, Act.put, List.setIfInBounds_toArray, List.set_cons_zero, List.set_cons_succ]; rfl)) (hJ3_4 (gb250009, gb250010) _ ⟨hHeld, (by (with_reducible repeat (first | refine blk_drewN ?_ _ | refine blk_drew ?_ | refine blk_alloc ?_ _)); exact BK250001.out), (by (with_reducible repeat (first | refine blk_drewN ?_ _ | refine blk_drew ?_ | refine blk_alloc ?_ _)); exact BK250002.out), (by (with_reducible repeat (first | refine blk_drewN ?_ _ | refine blk_drew ?_ | refine blk_alloc ?_ _)); exact BK250003.out), (by (with_reducible repeat (first | refine blk_drewN ?_ _ | refine blk_drew ?_ | refine blk_alloc ?_ _)); exact BK250004.out), (by (with_reducible repeat (first | refine blk_drewN ?_ _ | refine blk_drew ?_ | refine blk_alloc ?_ _)); exact BK250009.out), (by (with_reducible repeat (first | refine blk_drewN ?_ _ | refine blk_drew ?_ | refine blk_alloc ?_ _)); exact BK250010.out), GW250009.out, GE250009.out, NB250001_250009.out, NB250009_250001.out, NB250002_250009.out, NB250009_250002.out, NB250003_250009.out, NB250009_250003.out, NB250004_250009.out, NB250009_250004.out, NB250010_250009.out, NB250009_250010.out, GW250010.out, GE250010.out, NB250001_250010.out, NB250010_250001.out, NB250002_250010.out, NB250010_250002.out, NB250003_250010.out, NB250010_250003.out, NB250004_250010.out, NB250010_250004.out, (by repeat (first | (with_reducible first | exact HB.out | apply below_alloc | apply pw_below_drewN | apply below_drew1 | refine below_set ?_ GE250001.out | refine below_set ?_ GE250002.out | refine below_set ?_ GE250003.out | refine below_set ?_ GE250004.out | refine below_set ?_ GE250010.out | refine below_set ?_ GE250009.out) | exact HB.out))⟩)
        ·skip
         rintro gb250009 w32 ⟨hS_, h0_, h1_, h2_, h3_, h4_, h5_, h6_, h7_, h8_, h9_, h10_, h11_, h12_, h13_, h14_, h15_⟩
         have n0_ : Aside0 (w32.heap[gb250001]? = some (.cells #[.string a0_0, .int .i64 a0_1] 23 (0, 0))) := ⟨h0_⟩
         have n1_ : Aside0 (w32.heap[gb250002]? = some (.cells #[.slice none 0 0] 24 (0, 0))) := ⟨h1_⟩
         have n2_ : Aside0 (w32.heap[gb250003]? = some (.cells #[.string (⟨#[]⟩ : ByteArray), .int .i64 0] 23 (0, 0))) := ⟨h2_⟩
         have n3_ : Aside0 (w32.heap[gb250004]? = some (.cells #[.int .i64 0] 31 (0, 0))) := ⟨h3_⟩
         have n4_ : Aside0 (w32.heap[gb250009]? = some (.cells #[.slice none 0 0] 24 (0, 0))) := ⟨h4_⟩
         have n5_ : Aside0 (w.heap.size ≤ gb250009) := ⟨h5_⟩
         have n6_ : Aside0 (w.heap.size ≤ gb250009) := ⟨h6_⟩
         have n7_ : Aside0 (gb250001 ≠ gb250009) := ⟨h7_⟩
         have n8_ : Aside0 (gb250009 ≠ gb250001) := ⟨h8_⟩
         have n9_ : Aside0 (gb250002 ≠ gb250009) := ⟨h9_⟩
         have n10_ : Aside0 (gb250009 ≠ gb250002) := ⟨h10_⟩
         have n11_ : Aside0 (gb250003 ≠ gb250009) := ⟨h11_⟩
         have n12_ : Aside0 (gb250009 ≠ gb250003) := ⟨h12_⟩
         have n13_ : Aside0 (gb250004 ≠ gb250009) := ⟨h13_⟩
         have n14_ : Aside0 (gb250009 ≠ gb250004) := ⟨h14_⟩
         have n15_ : Aside0 (Below w.heap.size w w32) := ⟨h15_⟩
         clear BK250001
         clear BK250002
         clear BK250003
         clear BK250004
         clear HB
         clear h0_ h1_ h2_ h3_ h4_ h5_ h6_ h7_ h8_ h9_ h10_ h11_ h12_ h13_ h14_ h15_
         have BK250001 := n0_
         have BK250002 := n1_
         have BK250003 := n2_
         have BK250004 := n3_
         have BK250009 := n4_
         have GW250009 := n5_
         have GE250009 := n6_
         have NB250001_250009 := n7_
         have NB250009_250001 := n8_
         have NB250002_250009 := n9_
         have NB250009_250002 := n10_
         have NB250003_250009 := n11_
         have NB250009_250003 := n12_
         have NB250004_250009 := n13_
         have NB250009_250004 := n14_
         have HB := n15_
         clear n0_ n1_ n2_ n3_ n4_ n5_ n6_ n7_ n8_ n9_ n10_ n11_ n12_ n13_ n14_ n15_
         have hHeld : w32.cell? ⟨gb250001, 0, none⟩ = some (.string a0_0) ∧ w32.cell? ⟨gb250001, 1, none⟩ = some (.int .i64 a0_1) := hS_
         refine norm_ (a' := ?_) ?_ ?_
         rotate_left
         ·simp only [putAll, Act.put, List.setIfInBounds_toArray, List.set_cons_zero, List.set_cons_succ]
          rfl
         refine two_ (i := 1) (j := 4) (Ni := some 24) (Nj := some 8) #[true, true, true, true, false, false, false] #[true, false, true, true, true, false, false] rfl rfl rfl rfl (by kernel_rfl) (by decide) (by decide) (fun K hK => ?_) (fun K hK => ?_)
         ·skip
          refine goes_ Try.func45 (by kernel_rfl) rfl #[.slice A1 l1.length c1] (by rfl) rfl rfl (by (try simp only [List.map_toArray, List.map_cons, List.map_nil]); first | done | rfl | (simp only [List.length_drop, List.length_take]; rfl)) ?_
          with_reducible refine (slices_Clone_int_int.calls _ _ l1 t250006 _ ?side1 ?side2 A20.out).mono ?_
          (case side1 => repeat (first | exact (Kd.C_below HR1.out HB.out) | (with_reducible refine Kd.C_alloc ?_ _) | (with_reducible refine Kd.C_drewN ?_ _) | (with_reducible refine Kd.C_drew ?_)))
          (case side2 => exact HC1.out)
          rintro e w33 ⟨v250007, rfl, ho0, hb⟩
          refine ⟨_, rfl, ?_⟩
          have n0_ := Aside0.mk (Kd.R_lower ho0 (below_size (by repeat (first | (with_reducible first | exact HB.out | apply below_alloc | apply pw_below_drewN | apply below_drew1 | refine below_set ?_ GE250001.out | refine below_set ?_ GE250002.out | refine below_set ?_ GE250003.out | refine below_set ?_ GE250004.out | refine below_set ?_ GE250009.out) | exact HB.out))))
          have n1_ := Aside0.mk (blk_below (g := gb250001) (o := .cells #[.string a0_0, .int .i64 a0_1] 23 (0, 0)) (by (with_reducible repeat (first | refine blk_drewN ?_ _ | refine blk_drew ?_ | refine blk_alloc ?_ _)); exact BK250001.out) hb)
          have n2_ := Aside0.mk (blk_below (g := gb250002) (o := .cells #[.slice none 0 0] 24 (0, 0)) (by (with_reducible repeat (first | refine blk_drewN ?_ _ | refine blk_drew ?_ | refine blk_alloc ?_ _)); exact BK250002.out) hb)
          have n3_ := Aside0.mk (blk_below (g := gb250003) (o := .cells #[.string (⟨#[]⟩ : ByteArray), .int .i64 0] 23 (0, 0)) (by (with_reducible repeat (first | refine blk_drewN ?_ _ | refine blk_drew ?_ | refine blk_alloc ?_ _)); exact BK250003.out) hb)
          have n4_ := Aside0.mk (blk_below (g := gb250004) (o := .cells #[.int .i64 0] 31 (0, 0)) (by (with_reducible repeat (first | refine blk_drewN ?_ _ | refine blk_drew ?_ | refine blk_alloc ?_ _)); exact BK250004.out) hb)
          have n5_ := Aside0.mk (blk_below (g := gb250009) (o := .cells #[.slice none 0 0] 24 (0, 0)) (by (with_reducible repeat (first | refine blk_drewN ?_ _ | refine blk_drew ?_ | refine blk_alloc ?_ _)); exact BK250009.out) hb)
          have n6_ := Aside0.mk (below_step (by repeat (first | (with_reducible first | exact HB.out | apply below_alloc | apply pw_below_drewN | apply below_drew1 | refine below_set ?_ GE250001.out | refine below_set ?_ GE250002.out | refine below_set ?_ GE250003.out | refine below_set ?_ GE250004.out | refine below_set ?_ GE250009.out) | exact HB.out)) hb)
          clear BK250001
          clear BK250002
          clear BK250003
          clear BK250004
          clear BK250009
          clear HB
          have HO250008 := n0_
          have BK250001 := n1_
          have BK250002 := n2_
          have BK250003 := n3_
          have BK250004 := n4_
          have BK250009 := n5_
          have HB := n6_
          clear n0_ n1_ n2_ n3_ n4_ n5_ n6_
          (try clear hb)
          (try clear hb2)
          (try clear hk)
          (try clear hi)
          (try clear ho0)
          refine hK.out _ _ ⟨(blk_cell BK250001.out 0).trans rfl, (blk_cell BK250001.out 1).trans rfl⟩ (fun hHeld => ?_)
          clear hK K
          refine norm_ (a' := ?_) ?_ ?_
          rotate_left
          ·show Act.put _ (some 24) _ = _
           simp only [Act.put, List.setIfInBounds_toArray, List.set_cons_zero, List.set_cons_succ, i64_w, i32_w]
           rfl
          exact norm_ (by first | (simp only [putAll, Act.put, List.setIfInBounds_toArray, List.set_cons_zero, List.set_cons_succ]; done) | (simp only [putAll, Act.put, List.setIfInBounds_toArray, List.set_cons_zero, List.set_cons_succ]; rfl)) (hJ1_3 (v250007, gb250009) _ ⟨hHeld, (by (with_reducible repeat (first | apply Kd.R_alloc | apply Kd.R_drewN | apply Kd.R_drew)); exact HO250008.out), (by (with_reducible repeat (first | refine blk_drewN ?_ _ | refine blk_drew ?_ | refine blk_alloc ?_ _)); exact BK250001.out), (by (with_reducible repeat (first | refine blk_drewN ?_ _ | refine blk_drew ?_ | refine blk_alloc ?_ _)); exact BK250002.out), (by (with_reducible repeat (first | refine blk_drewN ?_ _ | refine blk_drew ?_ | refine blk_alloc ?_ _)); exact BK250003.out), (by (with_reducible repeat (first | refine blk_drewN ?_ _ | refine blk_drew ?_ | refine blk_alloc ?_ _)); exact BK250004.out), (by (with_reducible repeat (first | refine blk_drewN ?_ _ | refine blk_drew ?_ | refine blk_alloc ?_ _)); exact BK250009.out), GW250009.out, GE250009.out, NB250001_250009.out, NB250009_250001.out, NB250002_250009.out, NB250009_250002.out, NB250003_250009.out, NB250009_250003.out, NB250004_250009.out, NB250009_250004.out, (by repeat (first | (with_reducible first | exact HB.out | apply below_alloc | apply pw_below_drewN | apply below_drew1 | refine below_set ?_ GE250001.out | refine below_set ?_ GE250002.out | refine below_set ?_ GE250003.out | refine below_set ?_ GE250004.out | refine below_set ?_ GE250009.out) | exact HB.out))⟩)
         ·skip
          refine box_step ?hg (N := 8) ?hd (cs := #[.string (⟨#[]⟩ : ByteArray), .int .i64 0]) (t := 23) ?hr ?_; (case hd => rfl); (case hg => rfl); (case hr => first | (go_simp; done) | (go_simp; rfl))
          intro gb250010 hg w33 hbox hb
          have n0_ := Aside0.mk (blk_below (g := gb250001) (o := .cells #[.string a0_0, .int .i64 a0_1] 23 (0, 0)) (by (with_reducible repeat (first | refine blk_drewN ?_ _ | refine blk_drew ?_ | refine blk_alloc ?_ _)); exact BK250001.out) hb)
          have n1_ := Aside0.mk (blk_below (g := gb250002) (o := .cells #[.slice none 0 0] 24 (0, 0)) (by (with_reducible repeat (first | refine blk_drewN ?_ _ | refine blk_drew ?_ | refine blk_alloc ?_ _)); exact BK250002.out) hb)
          have n2_ := Aside0.mk (blk_below (g := gb250003) (o := .cells #[.string (⟨#[]⟩ : ByteArray), .int .i64 0] 23 (0, 0)) (by (with_reducible repeat (first | refine blk_drewN ?_ _ | refine blk_drew ?_ | refine blk_alloc ?_ _)); exact BK250003.out) hb)
          have n3_ := Aside0.mk (blk_below (g := gb250004) (o := .cells #[.int .i64 0] 31 (0, 0)) (by (with_reducible repeat (first | refine blk_drewN ?_ _ | refine blk_drew ?_ | refine blk_alloc ?_ _)); exact BK250004.out) hb)
          have n4_ := Aside0.mk (blk_below (g := gb250009) (o := .cells #[.slice none 0 0] 24 (0, 0)) (by (with_reducible repeat (first | refine blk_drewN ?_ _ | refine blk_drew ?_ | refine blk_alloc ?_ _)); exact BK250009.out) hb)
          have n5_ := Aside0.mk (below_step (by repeat (first | (with_reducible first | exact HB.out | apply below_alloc | apply pw_below_drewN | apply below_drew1 | refine below_set ?_ GE250001.out | refine below_set ?_ GE250002.out | refine below_set ?_ GE250003.out | refine below_set ?_ GE250004.out | refine below_set ?_ GE250009.out) | exact HB.out)) hb)
          have n6_ := Aside0.mk (hbox)
          have n7_ := Aside0.mk ((by rw [hg]; exact (below_size (by repeat (first | (with_reducible first | exact HB.out | apply below_alloc | apply pw_below_drewN | apply below_drew1 | refine below_set ?_ GE250001.out | refine below_set ?_ GE250002.out | refine below_set ?_ GE250003.out | refine below_set ?_ GE250004.out | refine below_set ?_ GE250009.out) | exact HB.out))) : w.heap.size ≤ gb250010))
          have n8_ := Aside0.mk ((by rw [hg]; exact (below_size (by repeat (first | (with_reducible first | exact HB.out | apply below_alloc | apply pw_below_drewN | apply below_drew1 | refine below_set ?_ GE250001.out | refine below_set ?_ GE250002.out | refine below_set ?_ GE250003.out | refine below_set ?_ GE250004.out | refine below_set ?_ GE250009.out) | exact HB.out))) : w.heap.size ≤ gb250010))
          have n9_ := Aside0.mk ((by rw [hg]; exact Nat.ne_of_lt (blk_lt (g := gb250001) (o := .cells #[.string a0_0, .int .i64 a0_1] 23 (0, 0)) (by (with_reducible repeat (first | refine blk_drewN ?_ _ | refine blk_drew ?_ | refine blk_alloc ?_ _)); exact BK250001.out)) : gb250001 ≠ gb250010))
          have n10_ := Aside0.mk ((by rw [hg]; exact Nat.ne_of_gt (blk_lt (g := gb250001) (o := .cells #[.string a0_0, .int .i64 a0_1] 23 (0, 0)) (by (with_reducible repeat (first | refine blk_drewN ?_ _ | refine blk_drew ?_ | refine blk_alloc ?_ _)); exact BK250001.out)) : gb250010 ≠ gb250001))
          have n11_ := Aside0.mk ((by rw [hg]; exact Nat.ne_of_lt (blk_lt (g := gb250002) (o := .cells #[.slice none 0 0] 24 (0, 0)) (by (with_reducible repeat (first | refine blk_drewN ?_ _ | refine blk_drew ?_ | refine blk_alloc ?_ _)); exact BK250002.out)) : gb250002 ≠ gb250010))
          have n12_ := Aside0.mk ((by rw [hg]; exact Nat.ne_of_gt (blk_lt (g := gb250002) (o := .cells #[.slice none 0 0] 24 (0, 0)) (by (with_reducible repeat (first | refine blk_drewN ?_ _ | refine blk_drew ?_ | refine blk_alloc ?_ _)); exact BK250002.out)) : gb250010 ≠ gb250002))
          have n13_ := Aside0.mk ((by rw [hg]; exact Nat.ne_of_lt (blk_lt (g := gb250003) (o := .cells #[.string (⟨#[]⟩ : ByteArray), .int .i64 0] 23 (0, 0)) (by (with_reducible repeat (first | refine blk_drewN ?_ _ | refine blk_drew ?_ | refine blk_alloc ?_ _)); exact BK250003.out)) : gb250003 ≠ gb250010))
          have n14_ := Aside0.mk ((by rw [hg]; exact Nat.ne_of_gt (blk_lt (g := gb250003) (o := .cells #[.string (⟨#[]⟩ : ByteArray), .int .i64 0] 23 (0, 0)) (by (with_reducible repeat (first | refine blk_drewN ?_ _ | refine blk_drew ?_ | refine blk_alloc ?_ _)); exact BK250003.out)) : gb250010 ≠ gb250003))
          have n15_ := Aside0.mk ((by rw [hg]; exact Nat.ne_of_lt (blk_lt (g := gb250004) (o := .cells #[.int .i64 0] 31 (0, 0)) (by (with_reducible repeat (first | refine blk_drewN ?_ _ | refine blk_drew ?_ | refine blk_alloc ?_ _)); exact BK250004.out)) : gb250004 ≠ gb250010))
          have n16_ := Aside0.mk ((by rw [hg]; exact Nat.ne_of_gt (blk_lt (g := gb250004) (o := .cells #[.int .i64 0] 31 (0, 0)) (by (with_reducible repeat (first | refine blk_drewN ?_ _ | refine blk_drew ?_ | refine blk_alloc ?_ _)); exact BK250004.out)) : gb250010 ≠ gb250004))
          have n17_ := Aside0.mk ((by rw [hg]; exact Nat.ne_of_lt (blk_lt (g := gb250009) (o := .cells #[.slice none 0 0] 24 (0, 0)) (by (with_reducible repeat (first | refine blk_drewN ?_ _ | refine blk_drew ?_ | refine blk_alloc ?_ _)); exact BK250009.out)) : gb250009 ≠ gb250010))
          have n18_ := Aside0.mk ((by rw [hg]; exact Nat.ne_of_gt (blk_lt (g := gb250009) (o := .cells #[.slice none 0 0] 24 (0, 0)) (by (with_reducible repeat (first | refine blk_drewN ?_ _ | refine blk_drew ?_ | refine blk_alloc ?_ _)); exact BK250009.out)) : gb250010 ≠ gb250009))
          clear BK250001
          clear BK250002
          clear BK250003
          clear BK250004
          clear BK250009
          clear HB
          have BK250001 := n0_
          have BK250002 := n1_
          have BK250003 := n2_
          have BK250004 := n3_
          have BK250009 := n4_
          have HB := n5_
          have BK250010 := n6_
          have GW250010 := n7_
          have GE250010 := n8_
          have NB250001_250010 := n9_
          have NB250010_250001 := n10_
          have NB250002_250010 := n11_
          have NB250010_250002 := n12_
          have NB250003_250010 := n13_
          have NB250010_250003 := n14_
          have NB250004_250010 := n15_
          have NB250010_250004 := n16_
          have NB250009_250010 := n17_
          have NB250010_250009 := n18_
          clear n0_ n1_ n2_ n3_ n4_ n5_ n6_ n7_ n8_ n9_ n10_ n11_ n12_ n13_ n14_ n15_ n16_ n17_ n18_
          clear hb hbox hg
          refine hK.out _ _ ⟨(blk_cell BK250001.out 0).trans rfl, (blk_cell BK250001.out 1).trans rfl⟩ (fun hHeld => ?_)
          clear hK K
          refine norm_ (a' := ?_) ?_ ?_
          rotate_left
          ·show Act.put _ (some 8) _ = _
           simp only [Act.put, List.setIfInBounds_toArray, List.set_cons_zero, List.set_cons_succ, i64_w, i32_w]
           rfl
          exact norm_ (by first | (simp only [putAll, Act.put, List.setIfInBounds_toArray, List.set_cons_zero, List.set_cons_succ]; done) | (simp only [putAll, Act.put, List.setIfInBounds_toArray, List.set_cons_zero, List.set_cons_succ]; rfl)) (hJ3_4 (gb250009, gb250010) _ ⟨hHeld, (by (with_reducible repeat (first | refine blk_drewN ?_ _ | refine blk_drew ?_ | refine blk_alloc ?_ _)); exact BK250001.out), (by (with_reducible repeat (first | refine blk_drewN ?_ _ | refine blk_drew ?_ | refine blk_alloc ?_ _)); exact BK250002.out), (by (with_reducible repeat (first | refine blk_drewN ?_ _ | refine blk_drew ?_ | refine blk_alloc ?_ _)); exact BK250003.out), (by (with_reducible repeat (first | refine blk_drewN ?_ _ | refine blk_drew ?_ | refine blk_alloc ?_ _)); exact BK250004.out), (by (with_reducible repeat (first | refine blk_drewN ?_ _ | refine blk_drew ?_ | refine blk_alloc ?_ _)); exact BK250009.out), (by (with_reducible repeat (first | refine blk_drewN ?_ _ | refine blk_drew ?_ | refine blk_alloc ?_ _)); exact BK250010.out), GW250009.out, GE250009.out, NB250001_250009.out, NB250009_250001.out, NB250002_250009.out, NB250009_250002.out, NB250003_250009.out, NB250009_250003.out, NB250004_250009.out, NB250009_250004.out, NB250010_250009.out, NB250009_250010.out, GW250010.out, GE250010.out, NB250001_250010.out, NB250010_250001.out, NB250002_250010.out, NB250010_250002.out, NB250003_250010.out, NB250010_250003.out, NB250004_250010.out, NB250010_250004.out, (by repeat (first | (with_reducible first | exact HB.out | apply below_alloc | apply pw_below_drewN | apply below_drew1 | refine below_set ?_ GE250001.out | refine below_set ?_ GE250002.out | refine below_set ?_ GE250003.out | refine below_set ?_ GE250004.out | refine below_set ?_ GE250009.out | refine below_set ?_ GE250010.out) | exact HB.out))⟩)
       ·skip
        rintro v250007 w32 ⟨hS_, h0_, h1_, h2_, h3_, h4_, h5_⟩
        have n0_ : Aside0 (Kd.R (Kd.int .i64) 3 w32 w.heap.size (fun _ => True) v250007 t250006) := ⟨h0_⟩
        have n1_ : Aside0 (w32.heap[gb250001]? = some (.cells #[.string a0_0, .int .i64 a0_1] 23 (0, 0))) := ⟨h1_⟩
        have n2_ : Aside0 (w32.heap[gb250002]? = some (.cells #[.slice none 0 0] 24 (0, 0))) := ⟨h2_⟩
        have n3_ : Aside0 (w32.heap[gb250003]? = some (.cells #[.string (⟨#[]⟩ : ByteArray), .int .i64 0] 23 (0, 0))) := ⟨h3_⟩
        have n4_ : Aside0 (w32.heap[gb250004]? = some (.cells #[.int .i64 0] 31 (0, 0))) := ⟨h4_⟩
        have n5_ : Aside0 (Below w.heap.size w w32) := ⟨h5_⟩
        clear BK250001
        clear BK250002
        clear BK250003
        clear BK250004
        clear HB
        clear h0_ h1_ h2_ h3_ h4_ h5_
        have HO250008 := n0_
        have BK250001 := n1_
        have BK250002 := n2_
        have BK250003 := n3_
        have BK250004 := n4_
        have HB := n5_
        clear n0_ n1_ n2_ n3_ n4_ n5_
        have hHeld : w32.cell? ⟨gb250001, 0, none⟩ = some (.string a0_0) ∧ w32.cell? ⟨gb250001, 1, none⟩ = some (.int .i64 a0_1) := hS_
        refine norm_ (a' := ?_) ?_ ?_
        rotate_left
        ·simp only [putAll, Act.put, List.setIfInBounds_toArray, List.set_cons_zero, List.set_cons_succ]
         rfl
        refine two_ (i := 3) (j := 4) (Ni := some 7) (Nj := some 8) #[true, true, true, true, false, false, false] #[true, true, true, false, true, false, false] rfl rfl rfl rfl (by kernel_rfl) (by decide) (by decide) (fun K hK => ?_) (fun K hK => ?_)
        ·skip
         refine box_step ?hg (N := 7) ?hd (cs := #[.slice none 0 0]) (t := 24) ?hr ?_; (case hd => rfl); (case hg => rfl); (case hr => first | (go_simp; done) | (go_simp; rfl))
         intro gb250009 hg w33 hbox hb
         have n0_ := Aside0.mk (Kd.R_below (by (with_reducible repeat (first | apply Kd.R_alloc | apply Kd.R_drewN | apply Kd.R_drew)); exact HO250008.out) hb)
         have n1_ := Aside0.mk (blk_below (g := gb250001) (o := .cells #[.string a0_0, .int .i64 a0_1] 23 (0, 0)) (by (with_reducible repeat (first | refine blk_drewN ?_ _ | refine blk_drew ?_ | refine blk_alloc ?_ _)); exact BK250001.out) hb)
         have n2_ := Aside0.mk (blk_below (g := gb250002) (o := .cells #[.slice none 0 0] 24 (0, 0)) (by (with_reducible repeat (first | refine blk_drewN ?_ _ | refine blk_drew ?_ | refine blk_alloc ?_ _)); exact BK250002.out) hb)
         have n3_ := Aside0.mk (blk_below (g := gb250003) (o := .cells #[.string (⟨#[]⟩ : ByteArray), .int .i64 0] 23 (0, 0)) (by (with_reducible repeat (first | refine blk_drewN ?_ _ | refine blk_drew ?_ | refine blk_alloc ?_ _)); exact BK250003.out) hb)
         have n4_ := Aside0.mk (blk_below (g := gb250004) (o := .cells #[.int .i64 0] 31 (0, 0)) (by (with_reducible repeat (first | refine blk_drewN ?_ _ | refine blk_drew ?_ | refine blk_alloc ?_ _)); exact BK250004.out) hb)
         have n5_ := Aside0.mk (below_step (by repeat (first | (with_reducible first | exact HB.out | apply below_alloc | apply pw_below_drewN | apply below_drew1 | refine below_set ?_ GE250001.out | refine below_set ?_ GE250002.out | refine below_set ?_ GE250003.out | refine below_set ?_ GE250004.out) | exact HB.out)) hb)
         have n6_ := Aside0.mk (hbox)
         have n7_ := Aside0.mk ((by rw [hg]; exact (below_size (by repeat (first | (with_reducible first | exact HB.out | apply below_alloc | apply pw_below_drewN | apply below_drew1 | refine below_set ?_ GE250001.out | refine below_set ?_ GE250002.out | refine below_set ?_ GE250003.out | refine below_set ?_ GE250004.out) | exact HB.out))) : w.heap.size ≤ gb250009))
         have n8_ := Aside0.mk ((by rw [hg]; exact (below_size (by repeat (first | (with_reducible first | exact HB.out | apply below_alloc | apply pw_below_drewN | apply below_drew1 | refine below_set ?_ GE250001.out | refine below_set ?_ GE250002.out | refine below_set ?_ GE250003.out | refine below_set ?_ GE250004.out) | exact HB.out))) : w.heap.size ≤ gb250009))
         have n9_ := Aside0.mk ((by rw [hg]; exact Nat.ne_of_lt (blk_lt (g := gb250001) (o := .cells #[.string a0_0, .int .i64 a0_1] 23 (0, 0)) (by (with_reducible repeat (first | refine blk_drewN ?_ _ | refine blk_drew ?_ | refine blk_alloc ?_ _)); exact BK250001.out)) : gb250001 ≠ gb250009))
         have n10_ := Aside0.mk ((by rw [hg]; exact Nat.ne_of_gt (blk_lt (g := gb250001) (o := .cells #[.string a0_0, .int .i64 a0_1] 23 (0, 0)) (by (with_reducible repeat (first | refine blk_drewN ?_ _ | refine blk_drew ?_ | refine blk_alloc ?_ _)); exact BK250001.out)) : gb250009 ≠ gb250001))
         have n11_ := Aside0.mk ((by rw [hg]; exact Nat.ne_of_lt (blk_lt (g := gb250002) (o := .cells #[.slice none 0 0] 24 (0, 0)) (by (with_reducible repeat (first | refine blk_drewN ?_ _ | refine blk_drew ?_ | refine blk_alloc ?_ _)); exact BK250002.out)) : gb250002 ≠ gb250009))
         have n12_ := Aside0.mk ((by rw [hg]; exact Nat.ne_of_gt (blk_lt (g := gb250002) (o := .cells #[.slice none 0 0] 24 (0, 0)) (by (with_reducible repeat (first | refine blk_drewN ?_ _ | refine blk_drew ?_ | refine blk_alloc ?_ _)); exact BK250002.out)) : gb250009 ≠ gb250002))
         have n13_ := Aside0.mk ((by rw [hg]; exact Nat.ne_of_lt (blk_lt (g := gb250003) (o := .cells #[.string (⟨#[]⟩ : ByteArray), .int .i64 0] 23 (0, 0)) (by (with_reducible repeat (first | refine blk_drewN ?_ _ | refine blk_drew ?_ | refine blk_alloc ?_ _)); exact BK250003.out)) : gb250003 ≠ gb250009))
         have n14_ := Aside0.mk ((by rw [hg]; exact Nat.ne_of_gt (blk_lt (g := gb250003) (o := .cells #[.string (⟨#[]⟩ : ByteArray), .int .i64 0] 23 (0, 0)) (by (with_reducible repeat (first | refine blk_drewN ?_ _ | refine blk_drew ?_ | refine blk_alloc ?_ _)); exact BK250003.out)) : gb250009 ≠ gb250003))
         have n15_ := Aside0.mk ((by rw [hg]; exact Nat.ne_of_lt (blk_lt (g := gb250004) (o := .cells #[.int .i64 0] 31 (0, 0)) (by (with_reducible repeat (first | refine blk_drewN ?_ _ | refine blk_drew ?_ | refine blk_alloc ?_ _)); exact BK250004.out)) : gb250004 ≠ gb250009))
         have n16_ := Aside0.mk ((by rw [hg]; exact Nat.ne_of_gt (blk_lt (g := gb250004) (o := .cells #[.int .i64 0] 31 (0, 0)) (by (with_reducible repeat (first | refine blk_drewN ?_ _ | refine blk_drew ?_ | refine blk_alloc ?_ _)); exact BK250004.out)) : gb250009 ≠ gb250004))
         clear HO250008
         clear BK250001
         clear BK250002
         clear BK250003
         clear BK250004
         clear HB
         have HO250008 := n0_
         have BK250001 := n1_
         have BK250002 := n2_
         have BK250003 := n3_
         have BK250004 := n4_
         have HB := n5_
         have BK250009 := n6_
         have GW250009 := n7_
         have GE250009 := n8_
         have NB250001_250009 := n9_
         have NB250009_250001 := n10_
         have NB250002_250009 := n11_
         have NB250009_250002 := n12_
         have NB250003_250009 := n13_
         have NB250009_250003 := n14_
         have NB250004_250009 := n15_
         have NB250009_250004 := n16_
         clear n0_ n1_ n2_ n3_ n4_ n5_ n6_ n7_ n8_ n9_ n10_ n11_ n12_ n13_ n14_ n15_ n16_
         clear hb hbox hg
         refine hK.out _ _ ⟨(blk_cell BK250001.out 0).trans rfl, (blk_cell BK250001.out 1).trans rfl⟩ (fun hHeld => ?_)
         clear hK K
         refine norm_ (a' := ?_) ?_ ?_
         rotate_left
         ·show Act.put _ (some 7) _ = _
          simp only [Act.put, List.setIfInBounds_toArray, List.set_cons_zero, List.set_cons_succ, i64_w, i32_w]
          rfl
         exact norm_ (by first | (simp only [putAll, Act.put, List.setIfInBounds_toArray, List.set_cons_zero, List.set_cons_succ]; done) | (simp only [putAll, Act.put, List.setIfInBounds_toArray, List.set_cons_zero, List.set_cons_succ]; rfl)) (hJ1_3 (v250007, gb250009) _ ⟨hHeld, (by (with_reducible repeat (first | apply Kd.R_alloc | apply Kd.R_drewN | apply Kd.R_drew)); exact HO250008.out), (by (with_reducible repeat (first | refine blk_drewN ?_ _ | refine blk_drew ?_ | refine blk_alloc ?_ _)); exact BK250001.out), (by (with_reducible repeat (first | refine blk_drewN ?_ _ | refine blk_drew ?_ | refine blk_alloc ?_ _)); exact BK250002.out), (by (with_reducible repeat (first | refine blk_drewN ?_ _ | refine blk_drew ?_ | refine blk_alloc ?_ _)); exact BK250003.out), (by (with_reducible repeat (first | refine blk_drewN ?_ _ | refine blk_drew ?_ | refine blk_alloc ?_ _)); exact BK250004.out), (by (with_reducible repeat (first | refine blk_drewN ?_ _ | refine blk_drew ?_ | refine blk_alloc ?_ _)); exact BK250009.out), GW250009.out, GE250009.out, NB250001_250009.out, NB250009_250001.out, NB250002_250009.out, NB250009_250002.out, NB250003_250009.out, NB250009_250003.out, NB250004_250009.out, NB250009_250004.out, (by repeat (first | (with_reducible first | exact HB.out | apply below_alloc | apply pw_below_drewN | apply below_drew1 | refine below_set ?_ GE250001.out | refine below_set ?_ GE250002.out | refine below_set ?_ GE250003.out | refine below_set ?_ GE250004.out | refine below_set ?_ GE250009.out) | exact HB.out))⟩)
        ·skip
         refine box_step ?hg (N := 8) ?hd (cs := #[.string (⟨#[]⟩ : ByteArray), .int .i64 0]) (t := 23) ?hr ?_; (case hd => rfl); (case hg => rfl); (case hr => first | (go_simp; done) | (go_simp; rfl))
         intro gb250010 hg w33 hbox hb
         have n0_ := Aside0.mk (Kd.R_below (by (with_reducible repeat (first | apply Kd.R_alloc | apply Kd.R_drewN | apply Kd.R_drew)); exact HO250008.out) hb)
         have n1_ := Aside0.mk (blk_below (g := gb250001) (o := .cells #[.string a0_0, .int .i64 a0_1] 23 (0, 0)) (by (with_reducible repeat (first | refine blk_drewN ?_ _ | refine blk_drew ?_ | refine blk_alloc ?_ _)); exact BK250001.out) hb)
         have n2_ := Aside0.mk (blk_below (g := gb250002) (o := .cells #[.slice none 0 0] 24 (0, 0)) (by (with_reducible repeat (first | refine blk_drewN ?_ _ | refine blk_drew ?_ | refine blk_alloc ?_ _)); exact BK250002.out) hb)
         have n3_ := Aside0.mk (blk_below (g := gb250003) (o := .cells #[.string (⟨#[]⟩ : ByteArray), .int .i64 0] 23 (0, 0)) (by (with_reducible repeat (first | refine blk_drewN ?_ _ | refine blk_drew ?_ | refine blk_alloc ?_ _)); exact BK250003.out) hb)
         have n4_ := Aside0.mk (blk_below (g := gb250004) (o := .cells #[.int .i64 0] 31 (0, 0)) (by (with_reducible repeat (first | refine blk_drewN ?_ _ | refine blk_drew ?_ | refine blk_alloc ?_ _)); exact BK250004.out) hb)
         have n5_ := Aside0.mk (below_step (by repeat (first | (with_reducible first | exact HB.out | apply below_alloc | apply pw_below_drewN | apply below_drew1 | refine below_set ?_ GE250001.out | refine below_set ?_ GE250002.out | refine below_set ?_ GE250003.out | refine below_set ?_ GE250004.out) | exact HB.out)) hb)
         have n6_ := Aside0.mk (hbox)
         have n7_ := Aside0.mk ((by rw [hg]; exact (below_size (by repeat (first | (with_reducible first | exact HB.out | apply below_alloc | apply pw_below_drewN | apply below_drew1 | refine below_set ?_ GE250001.out | refine below_set ?_ GE250002.out | refine below_set ?_ GE250003.out | refine below_set ?_ GE250004.out) | exact HB.out))) : w.heap.size ≤ gb250010))
         have n8_ := Aside0.mk ((by rw [hg]; exact (below_size (by repeat (first | (with_reducible first | exact HB.out | apply below_alloc | apply pw_below_drewN | apply below_drew1 | refine below_set ?_ GE250001.out | refine below_set ?_ GE250002.out | refine below_set ?_ GE250003.out | refine below_set ?_ GE250004.out) | exact HB.out))) : w.heap.size ≤ gb250010))
         have n9_ := Aside0.mk ((by rw [hg]; exact Nat.ne_of_lt (blk_lt (g := gb250001) (o := .cells #[.string a0_0, .int .i64 a0_1] 23 (0, 0)) (by (with_reducible repeat (first | refine blk_drewN ?_ _ | refine blk_drew ?_ | refine blk_alloc ?_ _)); exact BK250001.out)) : gb250001 ≠ gb250010))
         have n10_ := Aside0.mk ((by rw [hg]; exact Nat.ne_of_gt (blk_lt (g := gb250001) (o := .cells #[.string a0_0, .int .i64 a0_1] 23 (0, 0)) (by (with_reducible repeat (first | refine blk_drewN ?_ _ | refine blk_drew ?_ | refine blk_alloc ?_ _)); exact BK250001.out)) : gb250010 ≠ gb250001))
         have n11_ := Aside0.mk ((by rw [hg]; exact Nat.ne_of_lt (blk_lt (g := gb250002) (o := .cells #[.slice none 0 0] 24 (0, 0)) (by (with_reducible repeat (first | refine blk_drewN ?_ _ | refine blk_drew ?_ | refine blk_alloc ?_ _)); exact BK250002.out)) : gb250002 ≠ gb250010))
         have n12_ := Aside0.mk ((by rw [hg]; exact Nat.ne_of_gt (blk_lt (g := gb250002) (o := .cells #[.slice none 0 0] 24 (0, 0)) (by (with_reducible repeat (first | refine blk_drewN ?_ _ | refine blk_drew ?_ | refine blk_alloc ?_ _)); exact BK250002.out)) : gb250010 ≠ gb250002))
         have n13_ := Aside0.mk ((by rw [hg]; exact Nat.ne_of_lt (blk_lt (g := gb250003) (o := .cells #[.string (⟨#[]⟩ : ByteArray), .int .i64 0] 23 (0, 0)) (by (with_reducible repeat (first | refine blk_drewN ?_ _ | refine blk_drew ?_ | refine blk_alloc ?_ _)); exact BK250003.out)) : gb250003 ≠ gb250010))
         have n14_ := Aside0.mk ((by rw [hg]; exact Nat.ne_of_gt (blk_lt (g := gb250003) (o := .cells #[.string (⟨#[]⟩ : ByteArray), .int .i64 0] 23 (0, 0)) (by (with_reducible repeat (first | refine blk_drewN ?_ _ | refine blk_drew ?_ | refine blk_alloc ?_ _)); exact BK250003.out)) : gb250010 ≠ gb250003))
         have n15_ := Aside0.mk ((by rw [hg]; exact Nat.ne_of_lt (blk_lt (g := gb250004) (o := .cells #[.int .i64 0] 31 (0, 0)) (by (with_reducible repeat (first | refine blk_drewN ?_ _ | refine blk_drew ?_ | refine blk_alloc ?_ _)); exact BK250004.out)) : gb250004 ≠ gb250010))
         have n16_ := Aside0.mk ((by rw [hg]; exact Nat.ne_of_gt (blk_lt (g := gb250004) (o := .cells #[.int .i64 0] 31 (0, 0)) (by (with_reducible repeat (first | refine blk_drewN ?_ _ | refine blk_drew ?_ | refine blk_alloc ?_ _)); exact BK250004.out)) : gb250010 ≠ gb250004))
         clear HO250008
         clear BK250001
         clear BK250002
         clear BK250003
         clear BK250004
         clear HB
         have HO250008 := n0_
         have BK250001 := n1_
         have BK250002 := n2_
         have BK250003 := n3_
         have BK250004 := n4_
         have HB := n5_
         have BK250010 := n6_
         have GW250010 := n7_
         have GE250010 := n8_
         have NB250001_250010 := n9_
         have NB250010_250001 := n10_
         have NB250002_250010 := n11_
         have NB250010_250002 := n12_
         have NB250003_250010 := n13_
         have NB250010_250003 := n14_
         have NB250004_250010 := n15_
         have NB250010_250004 := n16_
         clear n0_ n1_ n2_ n3_ n4_ n5_ n6_ n7_ n8_ n9_ n10_ n11_ n12_ n13_ n14_ n15_ n16_
         clear hb hbox hg
         refine hK.out _ _ ⟨(blk_cell BK250001.out 0).trans rfl, (blk_cell BK250001.out 1).trans rfl⟩ (fun hHeld => ?_)
         clear hK K
         refine norm_ (a' := ?_) ?_ ?_
         rotate_left
         ·show Act.put _ (some 8) _ = _
          simp only [Act.put, List.setIfInBounds_toArray, List.set_cons_zero, List.set_cons_succ, i64_w, i32_w]
          rfl
         exact norm_ (by first | (simp only [putAll, Act.put, List.setIfInBounds_toArray, List.set_cons_zero, List.set_cons_succ]; done) | (simp only [putAll, Act.put, List.setIfInBounds_toArray, List.set_cons_zero, List.set_cons_succ]; rfl)) (hJ1_4 (v250007, gb250010) _ ⟨hHeld, (by (with_reducible repeat (first | apply Kd.R_alloc | apply Kd.R_drewN | apply Kd.R_drew)); exact HO250008.out), (by (with_reducible repeat (first | refine blk_drewN ?_ _ | refine blk_drew ?_ | refine blk_alloc ?_ _)); exact BK250001.out), (by (with_reducible repeat (first | refine blk_drewN ?_ _ | refine blk_drew ?_ | refine blk_alloc ?_ _)); exact BK250002.out), (by (with_reducible repeat (first | refine blk_drewN ?_ _ | refine blk_drew ?_ | refine blk_alloc ?_ _)); exact BK250003.out), (by (with_reducible repeat (first | refine blk_drewN ?_ _ | refine blk_drew ?_ | refine blk_alloc ?_ _)); exact BK250004.out), (by (with_reducible repeat (first | refine blk_drewN ?_ _ | refine blk_drew ?_ | refine blk_alloc ?_ _)); exact BK250010.out), GW250010.out, GE250010.out, NB250001_250010.out, NB250010_250001.out, NB250002_250010.out, NB250010_250002.out, NB250003_250010.out, NB250010_250003.out, NB250004_250010.out, NB250010_250004.out, (by repeat (first | (with_reducible first | exact HB.out | apply below_alloc | apply pw_below_drewN | apply below_drew1 | refine below_set ?_ GE250001.out | refine below_set ?_ GE250002.out | refine below_set ?_ GE250003.out | refine below_set ?_ GE250004.out | refine below_set ?_ GE250010.out) | exact HB.out))⟩)
      ·skip
       rintro ⟨gb250009, gb250010⟩ w33 ⟨hS_, h0_, h1_, h2_, h3_, h4_, h5_, h6_, h7_, h8_, h9_, h10_, h11_, h12_, h13_, h14_, h15_, h16_, h17_, h18_, h19_, h20_, h21_, h22_, h23_, h24_, h25_, h26_, h27_, h28_⟩
       have n0_ : Aside0 (w33.heap[gb250001]? = some (.cells #[.string a0_0, .int .i64 a0_1] 23 (0, 0))) := ⟨h0_⟩
       have n1_ : Aside0 (w33.heap[gb250002]? = some (.cells #[.slice none 0 0] 24 (0, 0))) := ⟨h1_⟩
       have n2_ : Aside0 (w33.heap[gb250003]? = some (.cells #[.string (⟨#[]⟩ : ByteArray), .int .i64 0] 23 (0, 0))) := ⟨h2_⟩
       have n3_ : Aside0 (w33.heap[gb250004]? = some (.cells #[.int .i64 0] 31 (0, 0))) := ⟨h3_⟩
       have n4_ : Aside0 (w33.heap[gb250009]? = some (.cells #[.slice none 0 0] 24 (0, 0))) := ⟨h4_⟩
       have n5_ : Aside0 (w33.heap[gb250010]? = some (.cells #[.string (⟨#[]⟩ : ByteArray), .int .i64 0] 23 (0, 0))) := ⟨h5_⟩
       have n6_ : Aside0 (w.heap.size ≤ gb250009) := ⟨h6_⟩
       have n7_ : Aside0 (w.heap.size ≤ gb250009) := ⟨h7_⟩
       have n8_ : Aside0 (gb250001 ≠ gb250009) := ⟨h8_⟩
       have n9_ : Aside0 (gb250009 ≠ gb250001) := ⟨h9_⟩
       have n10_ : Aside0 (gb250002 ≠ gb250009) := ⟨h10_⟩
       have n11_ : Aside0 (gb250009 ≠ gb250002) := ⟨h11_⟩
       have n12_ : Aside0 (gb250003 ≠ gb250009) := ⟨h12_⟩
       have n13_ : Aside0 (gb250009 ≠ gb250003) := ⟨h13_⟩
       have n14_ : Aside0 (gb250004 ≠ gb250009) := ⟨h14_⟩
       have n15_ : Aside0 (gb250009 ≠ gb250004) := ⟨h15_⟩
       have n16_ : Aside0 (gb250010 ≠ gb250009) := ⟨h16_⟩
       have n17_ : Aside0 (gb250009 ≠ gb250010) := ⟨h17_⟩
       have n18_ : Aside0 (w.heap.size ≤ gb250010) := ⟨h18_⟩
       have n19_ : Aside0 (w.heap.size ≤ gb250010) := ⟨h19_⟩
       have n20_ : Aside0 (gb250001 ≠ gb250010) := ⟨h20_⟩
       have n21_ : Aside0 (gb250010 ≠ gb250001) := ⟨h21_⟩
       have n22_ : Aside0 (gb250002 ≠ gb250010) := ⟨h22_⟩
       have n23_ : Aside0 (gb250010 ≠ gb250002) := ⟨h23_⟩
       have n24_ : Aside0 (gb250003 ≠ gb250010) := ⟨h24_⟩
       have n25_ : Aside0 (gb250010 ≠ gb250003) := ⟨h25_⟩
       have n26_ : Aside0 (gb250004 ≠ gb250010) := ⟨h26_⟩
       have n27_ : Aside0 (gb250010 ≠ gb250004) := ⟨h27_⟩
       have n28_ : Aside0 (Below w.heap.size w w33) := ⟨h28_⟩
       clear BK250001
       clear BK250002
       clear BK250003
       clear BK250004
       clear HB
       clear h0_ h1_ h2_ h3_ h4_ h5_ h6_ h7_ h8_ h9_ h10_ h11_ h12_ h13_ h14_ h15_ h16_ h17_ h18_ h19_ h20_ h21_ h22_ h23_ h24_ h25_ h26_ h27_ h28_
       have BK250001 := n0_
       have BK250002 := n1_
       have BK250003 := n2_
       have BK250004 := n3_
       have BK250009 := n4_
       have BK250010 := n5_
       have GW250009 := n6_
       have GE250009 := n7_
       have NB250001_250009 := n8_
       have NB250009_250001 := n9_
       have NB250002_250009 := n10_
       have NB250009_250002 := n11_
       have NB250003_250009 := n12_
       have NB250009_250003 := n13_
       have NB250004_250009 := n14_
       have NB250009_250004 := n15_
       have NB250010_250009 := n16_
       have NB250009_250010 := n17_
       have GW250010 := n18_
       have GE250010 := n19_
       have NB250001_250010 := n20_
       have NB250010_250001 := n21_
       have NB250002_250010 := n22_
       have NB250010_250002 := n23_
       have NB250003_250010 := n24_
       have NB250010_250003 := n25_
       have NB250004_250010 := n26_
       have NB250010_250004 := n27_
       have HB := n28_
       clear n0_ n1_ n2_ n3_ n4_ n5_ n6_ n7_ n8_ n9_ n10_ n11_ n12_ n13_ n14_ n15_ n16_ n17_ n18_ n19_ n20_ n21_ n22_ n23_ n24_ n25_ n26_ n27_ n28_
       have hHeld : w33.cell? ⟨gb250001, 0, none⟩ = some (.string a0_0) ∧ w33.cell? ⟨gb250001, 1, none⟩ = some (.int .i64 a0_1) := hS_
       refine norm_ (a' := ?_) ?_ ?_
       rotate_left
       ·simp only [putAll, Act.put, List.setIfInBounds_toArray, List.set_cons_zero, List.set_cons_succ]
        rfl
       refine one_ (i := 1) (N := some 24) #[true, true, true, true, true, false, false] rfl rfl (by kernel_rfl) (by decide) (fun K hK => ?_)
       refine goes_ Try.func45 (by kernel_rfl) rfl #[.slice A1 l1.length c1] (by rfl) rfl rfl (by (try simp only [List.map_toArray, List.map_cons, List.map_nil]); first | done | rfl | (simp only [List.length_drop, List.length_take]; rfl)) ?_
       with_reducible refine (slices_Clone_int_int.calls _ _ l1 t250006 _ ?side1 ?side2 A20.out).mono ?_
       (case side1 => repeat (first | exact (Kd.C_below HR1.out HB.out) | (with_reducible refine Kd.C_alloc ?_ _) | (with_reducible refine Kd.C_drewN ?_ _) | (with_reducible refine Kd.C_drew ?_)))
       (case side2 => exact HC1.out)
       rintro e w34 ⟨v250007, rfl, ho0, hb⟩
       refine ⟨_, rfl, ?_⟩
       have n0_ := Aside0.mk (Kd.R_lower ho0 (below_size (by repeat (first | (with_reducible first | exact HB.out | apply below_alloc | apply pw_below_drewN | apply below_drew1 | refine below_set ?_ GE250001.out | refine below_set ?_ GE250002.out | refine below_set ?_ GE250003.out | refine below_set ?_ GE250004.out | refine below_set ?_ GE250009.out | refine below_set ?_ GE250010.out) | exact HB.out))))
       have n1_ := Aside0.mk (blk_below (g := gb250001) (o := .cells #[.string a0_0, .int .i64 a0_1] 23 (0, 0)) (by (with_reducible repeat (first | refine blk_drewN ?_ _ | refine blk_drew ?_ | refine blk_alloc ?_ _)); exact BK250001.out) hb)
       have n2_ := Aside0.mk (blk_below (g := gb250002) (o := .cells #[.slice none 0 0] 24 (0, 0)) (by (with_reducible repeat (first | refine blk_drewN ?_ _ | refine blk_drew ?_ | refine blk_alloc ?_ _)); exact BK250002.out) hb)
       have n3_ := Aside0.mk (blk_below (g := gb250003) (o := .cells #[.string (⟨#[]⟩ : ByteArray), .int .i64 0] 23 (0, 0)) (by (with_reducible repeat (first | refine blk_drewN ?_ _ | refine blk_drew ?_ | refine blk_alloc ?_ _)); exact BK250003.out) hb)
       have n4_ := Aside0.mk (blk_below (g := gb250004) (o := .cells #[.int .i64 0] 31 (0, 0)) (by (with_reducible repeat (first | refine blk_drewN ?_ _ | refine blk_drew ?_ | refine blk_alloc ?_ _)); exact BK250004.out) hb)
       have n5_ := Aside0.mk (blk_below (g := gb250009) (o := .cells #[.slice none 0 0] 24 (0, 0)) (by (with_reducible repeat (first | refine blk_drewN ?_ _ | refine blk_drew ?_ | refine blk_alloc ?_ _)); exact BK250009.out) hb)
       have n6_ := Aside0.mk (blk_below (g := gb250010) (o := .cells #[.string (⟨#[]⟩ : ByteArray), .int .i64 0] 23 (0, 0)) (by (with_reducible repeat (first | refine blk_drewN ?_ _ | refine blk_drew ?_ | refine blk_alloc ?_ _)); exact BK250010.out) hb)
       have n7_ := Aside0.mk (below_step (by repeat (first | (with_reducible first | exact HB.out | apply below_alloc | apply pw_below_drewN | apply below_drew1 | refine below_set ?_ GE250001.out | refine below_set ?_ GE250002.out | refine below_set ?_ GE250003.out | refine below_set ?_ GE250004.out | refine below_set ?_ GE250009.out | refine below_set ?_ GE250010.out) | exact HB.out)) hb)
       clear BK250001
       clear BK250002
       clear BK250003
       clear BK250004
       clear BK250009
       clear BK250010
       clear HB
       have HO250008 := n0_
       have BK250001 := n1_
       have BK250002 := n2_
       have BK250003 := n3_
       have BK250004 := n4_
       have BK250009 := n5_
       have BK250010 := n6_
       have HB := n7_
       clear n0_ n1_ n2_ n3_ n4_ n5_ n6_ n7_
       (try clear hb)
       (try clear hb2)
       (try clear hk)
       (try clear hi)
       (try clear ho0)
       refine hK.out _ _ ⟨(blk_cell BK250001.out 0).trans rfl, (blk_cell BK250001.out 1).trans rfl⟩ (fun hHeld => ?_)
       clear hK K
       refine norm_ (a' := ?_) ?_ ?_
       rotate_left
       ·show Act.put _ (some 24) _ = _
        simp only [Act.put, List.setIfInBounds_toArray, List.set_cons_zero, List.set_cons_succ, i64_w, i32_w]
        rfl
       exact norm_ (by first | (simp only [putAll, Act.put, List.setIfInBounds_toArray, List.set_cons_zero, List.set_cons_succ]; done) | (simp only [putAll, Act.put, List.setIfInBounds_toArray, List.set_cons_zero, List.set_cons_succ]; rfl)) (hJ1_3_4 (v250007, gb250009, gb250010) _ ⟨hHeld, (by (with_reducible repeat (first | apply Kd.R_alloc | apply Kd.R_drewN | apply Kd.R_drew)); exact HO250008.out), (by (with_reducible repeat (first | refine blk_drewN ?_ _ | refine blk_drew ?_ | refine blk_alloc ?_ _)); exact BK250001.out), (by (with_reducible repeat (first | refine blk_drewN ?_ _ | refine blk_drew ?_ | refine blk_alloc ?_ _)); exact BK250002.out), (by (with_reducible repeat (first | refine blk_drewN ?_ _ | refine blk_drew ?_ | refine blk_alloc ?_ _)); exact BK250003.out), (by (with_reducible repeat (first | refine blk_drewN ?_ _ | refine blk_drew ?_ | refine blk_alloc ?_ _)); exact BK250004.out), (by (with_reducible repeat (first | refine blk_drewN ?_ _ | refine blk_drew ?_ | refine blk_alloc ?_ _)); exact BK250009.out), (by (with_reducible repeat (first | refine blk_drewN ?_ _ | refine blk_drew ?_ | refine blk_alloc ?_ _)); exact BK250010.out), GW250009.out, GE250009.out, NB250001_250009.out, NB250009_250001.out, NB250002_250009.out, NB250009_250002.out, NB250003_250009.out, NB250009_250003.out, NB250004_250009.out, NB250009_250004.out, NB250010_250009.out, NB250009_250010.out, GW250010.out, GE250010.out, NB250001_250010.out, NB250010_250001.out, NB250002_250010.out, NB250010_250002.out, NB250003_250010.out, NB250010_250003.out, NB250004_250010.out, NB250010_250004.out, (by repeat (first | (with_reducible first | exact HB.out | apply below_alloc | apply pw_below_drewN | apply below_drew1 | refine below_set ?_ GE250001.out | refine below_set ?_ GE250002.out | refine below_set ?_ GE250003.out | refine below_set ?_ GE250004.out | refine below_set ?_ GE250009.out | refine below_set ?_ GE250010.out) | exact HB.out))⟩)
     ·skip
      rintro ⟨v250007, gb250010⟩ w33 ⟨hS_, h0_, h1_, h2_, h3_, h4_, h5_, h6_, h7_, h8_, h9_, h10_, h11_, h12_, h13_, h14_, h15_, h16_⟩
      have n0_ : Aside0 (Kd.R (Kd.int .i64) 3 w33 w.heap.size (fun _ => True) v250007 t250006) := ⟨h0_⟩
      have n1_ : Aside0 (w33.heap[gb250001]? = some (.cells #[.string a0_0, .int .i64 a0_1] 23 (0, 0))) := ⟨h1_⟩
      have n2_ : Aside0 (w33.heap[gb250002]? = some (.cells #[.slice none 0 0] 24 (0, 0))) := ⟨h2_⟩
      have n3_ : Aside0 (w33.heap[gb250003]? = some (.cells #[.string (⟨#[]⟩ : ByteArray), .int .i64 0] 23 (0, 0))) := ⟨h3_⟩
      have n4_ : Aside0 (w33.heap[gb250004]? = some (.cells #[.int .i64 0] 31 (0, 0))) := ⟨h4_⟩
      have n5_ : Aside0 (w33.heap[gb250010]? = some (.cells #[.string (⟨#[]⟩ : ByteArray), .int .i64 0] 23 (0, 0))) := ⟨h5_⟩
      have n6_ : Aside0 (w.heap.size ≤ gb250010) := ⟨h6_⟩
      have n7_ : Aside0 (w.heap.size ≤ gb250010) := ⟨h7_⟩
      have n8_ : Aside0 (gb250001 ≠ gb250010) := ⟨h8_⟩
      have n9_ : Aside0 (gb250010 ≠ gb250001) := ⟨h9_⟩
      have n10_ : Aside0 (gb250002 ≠ gb250010) := ⟨h10_⟩
      have n11_ : Aside0 (gb250010 ≠ gb250002) := ⟨h11_⟩
      have n12_ : Aside0 (gb250003 ≠ gb250010) := ⟨h12_⟩
      have n13_ : Aside0 (gb250010 ≠ gb250003) := ⟨h13_⟩
      have n14_ : Aside0 (gb250004 ≠ gb250010) := ⟨h14_⟩
      have n15_ : Aside0 (gb250010 ≠ gb250004) := ⟨h15_⟩
      have n16_ : Aside0 (Below w.heap.size w w33) := ⟨h16_⟩
      clear BK250001
      clear BK250002
      clear BK250003
      clear BK250004
      clear HB
      clear h0_ h1_ h2_ h3_ h4_ h5_ h6_ h7_ h8_ h9_ h10_ h11_ h12_ h13_ h14_ h15_ h16_
      have HO250008 := n0_
      have BK250001 := n1_
      have BK250002 := n2_
      have BK250003 := n3_
      have BK250004 := n4_
      have BK250010 := n5_
      have GW250010 := n6_
      have GE250010 := n7_
      have NB250001_250010 := n8_
      have NB250010_250001 := n9_
      have NB250002_250010 := n10_
      have NB250010_250002 := n11_
      have NB250003_250010 := n12_
      have NB250010_250003 := n13_
      have NB250004_250010 := n14_
      have NB250010_250004 := n15_
      have HB := n16_
      clear n0_ n1_ n2_ n3_ n4_ n5_ n6_ n7_ n8_ n9_ n10_ n11_ n12_ n13_ n14_ n15_ n16_
      have hHeld : w33.cell? ⟨gb250001, 0, none⟩ = some (.string a0_0) ∧ w33.cell? ⟨gb250001, 1, none⟩ = some (.int .i64 a0_1) := hS_
      refine norm_ (a' := ?_) ?_ ?_
      rotate_left
      ·simp only [putAll, Act.put, List.setIfInBounds_toArray, List.set_cons_zero, List.set_cons_succ]
       rfl
      refine one_ (i := 3) (N := some 7) #[true, true, true, true, true, false, false] rfl rfl (by kernel_rfl) (by decide) (fun K hK => ?_)
      refine box_step ?hg (N := 7) ?hd (cs := #[.slice none 0 0]) (t := 24) ?hr ?_; (case hd => rfl); (case hg => rfl); (case hr => first | (go_simp; done) | (go_simp; rfl))
      intro gb250009 hg w34 hbox hb
      have n0_ := Aside0.mk (Kd.R_below (by (with_reducible repeat (first | apply Kd.R_alloc | apply Kd.R_drewN | apply Kd.R_drew)); exact HO250008.out) hb)
      have n1_ := Aside0.mk (blk_below (g := gb250001) (o := .cells #[.string a0_0, .int .i64 a0_1] 23 (0, 0)) (by (with_reducible repeat (first | refine blk_drewN ?_ _ | refine blk_drew ?_ | refine blk_alloc ?_ _)); exact BK250001.out) hb)
      have n2_ := Aside0.mk (blk_below (g := gb250002) (o := .cells #[.slice none 0 0] 24 (0, 0)) (by (with_reducible repeat (first | refine blk_drewN ?_ _ | refine blk_drew ?_ | refine blk_alloc ?_ _)); exact BK250002.out) hb)
      have n3_ := Aside0.mk (blk_below (g := gb250003) (o := .cells #[.string (⟨#[]⟩ : ByteArray), .int .i64 0] 23 (0, 0)) (by (with_reducible repeat (first | refine blk_drewN ?_ _ | refine blk_drew ?_ | refine blk_alloc ?_ _)); exact BK250003.out) hb)
      have n4_ := Aside0.mk (blk_below (g := gb250004) (o := .cells #[.int .i64 0] 31 (0, 0)) (by (with_reducible repeat (first | refine blk_drewN ?_ _ | refine blk_drew ?_ | refine blk_alloc ?_ _)); exact BK250004.out) hb)
      have n5_ := Aside0.mk (blk_below (g := gb250010) (o := .cells #[.string (⟨#[]⟩ : ByteArray), .int .i64 0] 23 (0, 0)) (by (with_reducible repeat (first | refine blk_drewN ?_ _ | refine blk_drew ?_ | refine blk_alloc ?_ _)); exact BK250010.out) hb)
      have n6_ := Aside0.mk (below_step (by repeat (first | (with_reducible first | exact HB.out | apply below_alloc | apply pw_below_drewN | apply below_drew1 | refine below_set ?_ GE250001.out | refine below_set ?_ GE250002.out | refine below_set ?_ GE250003.out | refine below_set ?_ GE250004.out | refine below_set ?_ GE250010.out) | exact HB.out)) hb)
      have n7_ := Aside0.mk (hbox)
      have n8_ := Aside0.mk ((by rw [hg]; exact (below_size (by repeat (first | (with_reducible first | exact HB.out | apply below_alloc | apply pw_below_drewN | apply below_drew1 | refine below_set ?_ GE250001.out | refine below_set ?_ GE250002.out | refine below_set ?_ GE250003.out | refine below_set ?_ GE250004.out | refine below_set ?_ GE250010.out) | exact HB.out))) : w.heap.size ≤ gb250009))
      have n9_ := Aside0.mk ((by rw [hg]; exact (below_size (by repeat (first | (with_reducible first | exact HB.out | apply below_alloc | apply pw_below_drewN | apply below_drew1 | refine below_set ?_ GE250001.out | refine below_set ?_ GE250002.out | refine below_set ?_ GE250003.out | refine below_set ?_ GE250004.out | refine below_set ?_ GE250010.out) | exact HB.out))) : w.heap.size ≤ gb250009))
      have n10_ := Aside0.mk ((by rw [hg]; exact Nat.ne_of_lt (blk_lt (g := gb250001) (o := .cells #[.string a0_0, .int .i64 a0_1] 23 (0, 0)) (by (with_reducible repeat (first | refine blk_drewN ?_ _ | refine blk_drew ?_ | refine blk_alloc ?_ _)); exact BK250001.out)) : gb250001 ≠ gb250009))
      have n11_ := Aside0.mk ((by rw [hg]; exact Nat.ne_of_gt (blk_lt (g := gb250001) (o := .cells #[.string a0_0, .int .i64 a0_1] 23 (0, 0)) (by (with_reducible repeat (first | refine blk_drewN ?_ _ | refine blk_drew ?_ | refine blk_alloc ?_ _)); exact BK250001.out)) : gb250009 ≠ gb250001))
      have n12_ := Aside0.mk ((by rw [hg]; exact Nat.ne_of_lt (blk_lt (g := gb250002) (o := .cells #[.slice none 0 0] 24 (0, 0)) (by (with_reducible repeat (first | refine blk_drewN ?_ _ | refine blk_drew ?_ | refine blk_alloc ?_ _)); exact BK250002.out)) : gb250002 ≠ gb250009))
      have n13_ := Aside0.mk ((by rw [hg]; exact Nat.ne_of_gt (blk_lt (g := gb250002) (o := .cells #[.slice none 0 0] 24 (0, 0)) (by (with_reducible repeat (first | refine blk_drewN ?_ _ | refine blk_drew ?_ | refine blk_alloc ?_ _)); exact BK250002.out)) : gb250009 ≠ gb250002))
      have n14_ := Aside0.mk ((by rw [hg]; exact Nat.ne_of_lt (blk_lt (g := gb250003) (o := .cells #[.string (⟨#[]⟩ : ByteArray), .int .i64 0] 23 (0, 0)) (by (with_reducible repeat (first | refine blk_drewN ?_ _ | refine blk_drew ?_ | refine blk_alloc ?_ _)); exact BK250003.out)) : gb250003 ≠ gb250009))
      have n15_ := Aside0.mk ((by rw [hg]; exact Nat.ne_of_gt (blk_lt (g := gb250003) (o := .cells #[.string (⟨#[]⟩ : ByteArray), .int .i64 0] 23 (0, 0)) (by (with_reducible repeat (first | refine blk_drewN ?_ _ | refine blk_drew ?_ | refine blk_alloc ?_ _)); exact BK250003.out)) : gb250009 ≠ gb250003))
      have n16_ := Aside0.mk ((by rw [hg]; exact Nat.ne_of_lt (blk_lt (g := gb250004) (o := .cells #[.int .i64 0] 31 (0, 0)) (by (with_reducible repeat (first | refine blk_drewN ?_ _ | refine blk_drew ?_ | refine blk_alloc ?_ _)); exact BK250004.out)) : gb250004 ≠ gb250009))
      have n17_ := Aside0.mk ((by rw [hg]; exact Nat.ne_of_gt (blk_lt (g := gb250004) (o := .cells #[.int .i64 0] 31 (0, 0)) (by (with_reducible repeat (first | refine blk_drewN ?_ _ | refine blk_drew ?_ | refine blk_alloc ?_ _)); exact BK250004.out)) : gb250009 ≠ gb250004))
      have n18_ := Aside0.mk ((by rw [hg]; exact Nat.ne_of_lt (blk_lt (g := gb250010) (o := .cells #[.string (⟨#[]⟩ : ByteArray), .int .i64 0] 23 (0, 0)) (by (with_reducible repeat (first | refine blk_drewN ?_ _ | refine blk_drew ?_ | refine blk_alloc ?_ _)); exact BK250010.out)) : gb250010 ≠ gb250009))
      have n19_ := Aside0.mk ((by rw [hg]; exact Nat.ne_of_gt (blk_lt (g := gb250010) (o := .cells #[.string (⟨#[]⟩ : ByteArray), .int .i64 0] 23 (0, 0)) (by (with_reducible repeat (first | refine blk_drewN ?_ _ | refine blk_drew ?_ | refine blk_alloc ?_ _)); exact BK250010.out)) : gb250009 ≠ gb250010))
      clear HO250008
      clear BK250001
      clear BK250002
      clear BK250003
      clear BK250004
      clear BK250010
      clear HB
      have HO250008 := n0_
      have BK250001 := n1_
      have BK250002 := n2_
      have BK250003 := n3_
      have BK250004 := n4_
      have BK250010 := n5_
      have HB := n6_
      have BK250009 := n7_
      have GW250009 := n8_
      have GE250009 := n9_
      have NB250001_250009 := n10_
      have NB250009_250001 := n11_
      have NB250002_250009 := n12_
      have NB250009_250002 := n13_
      have NB250003_250009 := n14_
      have NB250009_250003 := n15_
      have NB250004_250009 := n16_
      have NB250009_250004 := n17_
      have NB250010_250009 := n18_
      have NB250009_250010 := n19_
      clear n0_ n1_ n2_ n3_ n4_ n5_ n6_ n7_ n8_ n9_ n10_ n11_ n12_ n13_ n14_ n15_ n16_ n17_ n18_ n19_
      clear hb hbox hg
      refine hK.out _ _ ⟨(blk_cell BK250001.out 0).trans rfl, (blk_cell BK250001.out 1).trans rfl⟩ (fun hHeld => ?_)
      clear hK K
      refine norm_ (a' := ?_) ?_ ?_
      rotate_left
      ·show Act.put _ (some 7) _ = _
       simp only [Act.put, List.setIfInBounds_toArray, List.set_cons_zero, List.set_cons_succ, i64_w, i32_w]
       rfl
      exact norm_ (by first | (simp only [putAll, Act.put, List.setIfInBounds_toArray, List.set_cons_zero, List.set_cons_succ]; done) | (simp only [putAll, Act.put, List.setIfInBounds_toArray, List.set_cons_zero, List.set_cons_succ]; rfl)) (hJ1_3_4 (v250007, gb250009, gb250010) _ ⟨hHeld, (by (with_reducible repeat (first | apply Kd.R_alloc | apply Kd.R_drewN | apply Kd.R_drew)); exact HO250008.out), (by (with_reducible repeat (first | refine blk_drewN ?_ _ | refine blk_drew ?_ | refine blk_alloc ?_ _)); exact BK250001.out), (by (with_reducible repeat (first | refine blk_drewN ?_ _ | refine blk_drew ?_ | refine blk_alloc ?_ _)); exact BK250002.out), (by (with_reducible repeat (first | refine blk_drewN ?_ _ | refine blk_drew ?_ | refine blk_alloc ?_ _)); exact BK250003.out), (by (with_reducible repeat (first | refine blk_drewN ?_ _ | refine blk_drew ?_ | refine blk_alloc ?_ _)); exact BK250004.out), (by (with_reducible repeat (first | refine blk_drewN ?_ _ | refine blk_drew ?_ | refine blk_alloc ?_ _)); exact BK250009.out), (by (with_reducible repeat (first | refine blk_drewN ?_ _ | refine blk_drew ?_ | refine blk_alloc ?_ _)); exact BK250010.out), GW250009.out, GE250009.out, NB250001_250009.out, NB250009_250001.out, NB250002_250009.out, NB250009_250002.out, NB250003_250009.out, NB250009_250003.out, NB250004_250009.out, NB250009_250004.out, NB250010_250009.out, NB250009_250010.out, GW250010.out, GE250010.out, NB250001_250010.out, NB250010_250001.out, NB250002_250010.out, NB250010_250002.out, NB250003_250010.out, NB250010_250003.out, NB250004_250010.out, NB250010_250004.out, (by repeat (first | (with_reducible first | exact HB.out | apply below_alloc | apply pw_below_drewN | apply below_drew1 | refine below_set ?_ GE250001.out | refine below_set ?_ GE250002.out | refine below_set ?_ GE250003.out | refine below_set ?_ GE250004.out | refine below_set ?_ GE250010.out | refine below_set ?_ GE250009.out) | exact HB.out))⟩)
    ·skip
     rintro ⟨v250007, gb250009⟩ w33 ⟨hS_, h0_, h1_, h2_, h3_, h4_, h5_, h6_, h7_, h8_, h9_, h10_, h11_, h12_, h13_, h14_, h15_, h16_⟩
     have n0_ : Aside0 (Kd.R (Kd.int .i64) 3 w33 w.heap.size (fun _ => True) v250007 t250006) := ⟨h0_⟩
     have n1_ : Aside0 (w33.heap[gb250001]? = some (.cells #[.string a0_0, .int .i64 a0_1] 23 (0, 0))) := ⟨h1_⟩
     have n2_ : Aside0 (w33.heap[gb250002]? = some (.cells #[.slice none 0 0] 24 (0, 0))) := ⟨h2_⟩
     have n3_ : Aside0 (w33.heap[gb250003]? = some (.cells #[.string (⟨#[]⟩ : ByteArray), .int .i64 0] 23 (0, 0))) := ⟨h3_⟩
     have n4_ : Aside0 (w33.heap[gb250004]? = some (.cells #[.int .i64 0] 31 (0, 0))) := ⟨h4_⟩
     have n5_ : Aside0 (w33.heap[gb250009]? = some (.cells #[.slice none 0 0] 24 (0, 0))) := ⟨h5_⟩
     have n6_ : Aside0 (w.heap.size ≤ gb250009) := ⟨h6_⟩
     have n7_ : Aside0 (w.heap.size ≤ gb250009) := ⟨h7_⟩
     have n8_ : Aside0 (gb250001 ≠ gb250009) := ⟨h8_⟩
     have n9_ : Aside0 (gb250009 ≠ gb250001) := ⟨h9_⟩
     have n10_ : Aside0 (gb250002 ≠ gb250009) := ⟨h10_⟩
     have n11_ : Aside0 (gb250009 ≠ gb250002) := ⟨h11_⟩
     have n12_ : Aside0 (gb250003 ≠ gb250009) := ⟨h12_⟩
     have n13_ : Aside0 (gb250009 ≠ gb250003) := ⟨h13_⟩
     have n14_ : Aside0 (gb250004 ≠ gb250009) := ⟨h14_⟩
     have n15_ : Aside0 (gb250009 ≠ gb250004) := ⟨h15_⟩
     have n16_ : Aside0 (Below w.heap.size w w33) := ⟨h16_⟩
     clear BK250001
     clear BK250002
     clear BK250003
     clear BK250004
     clear HB
     clear h0_ h1_ h2_ h3_ h4_ h5_ h6_ h7_ h8_ h9_ h10_ h11_ h12_ h13_ h14_ h15_ h16_
     have HO250008 := n0_
     have BK250001 := n1_
     have BK250002 := n2_
     have BK250003 := n3_
     have BK250004 := n4_
     have BK250009 := n5_
     have GW250009 := n6_
     have GE250009 := n7_
     have NB250001_250009 := n8_
     have NB250009_250001 := n9_
     have NB250002_250009 := n10_
     have NB250009_250002 := n11_
     have NB250003_250009 := n12_
     have NB250009_250003 := n13_
     have NB250004_250009 := n14_
     have NB250009_250004 := n15_
     have HB := n16_
     clear n0_ n1_ n2_ n3_ n4_ n5_ n6_ n7_ n8_ n9_ n10_ n11_ n12_ n13_ n14_ n15_ n16_
     have hHeld : w33.cell? ⟨gb250001, 0, none⟩ = some (.string a0_0) ∧ w33.cell? ⟨gb250001, 1, none⟩ = some (.int .i64 a0_1) := hS_
     refine norm_ (a' := ?_) ?_ ?_
     rotate_left
     ·simp only [putAll, Act.put, List.setIfInBounds_toArray, List.set_cons_zero, List.set_cons_succ]
      rfl
     refine one_ (i := 4) (N := some 8) #[true, true, true, true, true, false, false] rfl rfl (by kernel_rfl) (by decide) (fun K hK => ?_)
     refine box_step ?hg (N := 8) ?hd (cs := #[.string (⟨#[]⟩ : ByteArray), .int .i64 0]) (t := 23) ?hr ?_; (case hd => rfl); (case hg => rfl); (case hr => first | (go_simp; done) | (go_simp; rfl))
     intro gb250010 hg w34 hbox hb
     have n0_ := Aside0.mk (Kd.R_below (by (with_reducible repeat (first | apply Kd.R_alloc | apply Kd.R_drewN | apply Kd.R_drew)); exact HO250008.out) hb)
     have n1_ := Aside0.mk (blk_below (g := gb250001) (o := .cells #[.string a0_0, .int .i64 a0_1] 23 (0, 0)) (by (with_reducible repeat (first | refine blk_drewN ?_ _ | refine blk_drew ?_ | refine blk_alloc ?_ _)); exact BK250001.out) hb)
     have n2_ := Aside0.mk (blk_below (g := gb250002) (o := .cells #[.slice none 0 0] 24 (0, 0)) (by (with_reducible repeat (first | refine blk_drewN ?_ _ | refine blk_drew ?_ | refine blk_alloc ?_ _)); exact BK250002.out) hb)
     have n3_ := Aside0.mk (blk_below (g := gb250003) (o := .cells #[.string (⟨#[]⟩ : ByteArray), .int .i64 0] 23 (0, 0)) (by (with_reducible repeat (first | refine blk_drewN ?_ _ | refine blk_drew ?_ | refine blk_alloc ?_ _)); exact BK250003.out) hb)
     have n4_ := Aside0.mk (blk_below (g := gb250004) (o := .cells #[.int .i64 0] 31 (0, 0)) (by (with_reducible repeat (first | refine blk_drewN ?_ _ | refine blk_drew ?_ | refine blk_alloc ?_ _)); exact BK250004.out) hb)
     have n5_ := Aside0.mk (blk_below (g := gb250009) (o := .cells #[.slice none 0 0] 24 (0, 0)) (by (with_reducible repeat (first | refine blk_drewN ?_ _ | refine blk_drew ?_ | refine blk_alloc ?_ _)); exact BK250009.out) hb)
     have n6_ := Aside0.mk (below_step (by repeat (first | (with_reducible first | exact HB.out | apply below_alloc | apply pw_below_drewN | apply below_drew1 | refine below_set ?_ GE250001.out | refine below_set ?_ GE250002.out | refine below_set ?_ GE250003.out | refine below_set ?_ GE250004.out | refine below_set ?_ GE250009.out) | exact HB.out)) hb)
     have n7_ := Aside0.mk (hbox)
     have n8_ := Aside0.mk ((by rw [hg]; exact (below_size (by repeat (first | (with_reducible first | exact HB.out | apply below_alloc | apply pw_below_drewN | apply below_drew1 | refine below_set ?_ GE250001.out | refine below_set ?_ GE250002.out | refine below_set ?_ GE250003.out | refine below_set ?_ GE250004.out | refine below_set ?_ GE250009.out) | exact HB.out))) : w.heap.size ≤ gb250010))
     have n9_ := Aside0.mk ((by rw [hg]; exact (below_size (by repeat (first | (with_reducible first | exact HB.out | apply below_alloc | apply pw_below_drewN | apply below_drew1 | refine below_set ?_ GE250001.out | refine below_set ?_ GE250002.out | refine below_set ?_ GE250003.out | refine below_set ?_ GE250004.out | refine below_set ?_ GE250009.out) | exact HB.out))) : w.heap.size ≤ gb250010))
     have n10_ := Aside0.mk ((by rw [hg]; exact Nat.ne_of_lt (blk_lt (g := gb250001) (o := .cells #[.string a0_0, .int .i64 a0_1] 23 (0, 0)) (by (with_reducible repeat (first | refine blk_drewN ?_ _ | refine blk_drew ?_ | refine blk_alloc ?_ _)); exact BK250001.out)) : gb250001 ≠ gb250010))
     have n11_ := Aside0.mk ((by rw [hg]; exact Nat.ne_of_gt (blk_lt (g := gb250001) (o := .cells #[.string a0_0, .int .i64 a0_1] 23 (0, 0)) (by (with_reducible repeat (first | refine blk_drewN ?_ _ | refine blk_drew ?_ | refine blk_alloc ?_ _)); exact BK250001.out)) : gb250010 ≠ gb250001))
     have n12_ := Aside0.mk ((by rw [hg]; exact Nat.ne_of_lt (blk_lt (g := gb250002) (o := .cells #[.slice none 0 0] 24 (0, 0)) (by (with_reducible repeat (first | refine blk_drewN ?_ _ | refine blk_drew ?_ | refine blk_alloc ?_ _)); exact BK250002.out)) : gb250002 ≠ gb250010))
     have n13_ := Aside0.mk ((by rw [hg]; exact Nat.ne_of_gt (blk_lt (g := gb250002) (o := .cells #[.slice none 0 0] 24 (0, 0)) (by (with_reducible repeat (first | refine blk_drewN ?_ _ | refine blk_drew ?_ | refine blk_alloc ?_ _)); exact BK250002.out)) : gb250010 ≠ gb250002))
     have n14_ := Aside0.mk ((by rw [hg]; exact Nat.ne_of_lt (blk_lt (g := gb250003) (o := .cells #[.string (⟨#[]⟩ : ByteArray), .int .i64 0] 23 (0, 0)) (by (with_reducible repeat (first | refine blk_drewN ?_ _ | refine blk_drew ?_ | refine blk_alloc ?_ _)); exact BK250003.out)) : gb250003 ≠ gb250010))
     have n15_ := Aside0.mk ((by rw [hg]; exact Nat.ne_of_gt (blk_lt (g := gb250003) (o := .cells #[.string (⟨#[]⟩ : ByteArray), .int .i64 0] 23 (0, 0)) (by (with_reducible repeat (first | refine blk_drewN ?_ _ | refine blk_drew ?_ | refine blk_alloc ?_ _)); exact BK250003.out)) : gb250010 ≠ gb250003))
     have n16_ := Aside0.mk ((by rw [hg]; exact Nat.ne_of_lt (blk_lt (g := gb250004) (o := .cells #[.int .i64 0] 31 (0, 0)) (by (with_reducible repeat (first | refine blk_drewN ?_ _ | refine blk_drew ?_ | refine blk_alloc ?_ _)); exact BK250004.out)) : gb250004 ≠ gb250010))
     have n17_ := Aside0.mk ((by rw [hg]; exact Nat.ne_of_gt (blk_lt (g := gb250004) (o := .cells #[.int .i64 0] 31 (0, 0)) (by (with_reducible repeat (first | refine blk_drewN ?_ _ | refine blk_drew ?_ | refine blk_alloc ?_ _)); exact BK250004.out)) : gb250010 ≠ gb250004))
     have n18_ := Aside0.mk ((by rw [hg]; exact Nat.ne_of_lt (blk_lt (g := gb250009) (o := .cells #[.slice none 0 0] 24 (0, 0)) (by (with_reducible repeat (first | refine blk_drewN ?_ _ | refine blk_drew ?_ | refine blk_alloc ?_ _)); exact BK250009.out)) : gb250009 ≠ gb250010))
     have n19_ := Aside0.mk ((by rw [hg]; exact Nat.ne_of_gt (blk_lt (g := gb250009) (o := .cells #[.slice none 0 0] 24 (0, 0)) (by (with_reducible repeat (first | refine blk_drewN ?_ _ | refine blk_drew ?_ | refine blk_alloc ?_ _)); exact BK250009.out)) : gb250010 ≠ gb250009))
     clear HO250008
     clear BK250001
     clear BK250002
     clear BK250003
     clear BK250004
     clear BK250009
     clear HB
     have HO250008 := n0_
     have BK250001 := n1_
     have BK250002 := n2_
     have BK250003 := n3_
     have BK250004 := n4_
     have BK250009 := n5_
     have HB := n6_
     have BK250010 := n7_
     have GW250010 := n8_
     have GE250010 := n9_
     have NB250001_250010 := n10_
     have NB250010_250001 := n11_
     have NB250002_250010 := n12_
     have NB250010_250002 := n13_
     have NB250003_250010 := n14_
     have NB250010_250003 := n15_
     have NB250004_250010 := n16_
     have NB250010_250004 := n17_
     have NB250009_250010 := n18_
     have NB250010_250009 := n19_
     clear n0_ n1_ n2_ n3_ n4_ n5_ n6_ n7_ n8_ n9_ n10_ n11_ n12_ n13_ n14_ n15_ n16_ n17_ n18_ n19_
     clear hb hbox hg
     refine hK.out _ _ ⟨(blk_cell BK250001.out 0).trans rfl, (blk_cell BK250001.out 1).trans rfl⟩ (fun hHeld => ?_)
     clear hK K
     refine norm_ (a' := ?_) ?_ ?_
     rotate_left
     ·show Act.put _ (some 8) _ = _
      simp only [Act.put, List.setIfInBounds_toArray, List.set_cons_zero, List.set_cons_succ, i64_w, i32_w]
      rfl
     exact norm_ (by first | (simp only [putAll, Act.put, List.setIfInBounds_toArray, List.set_cons_zero, List.set_cons_succ]; done) | (simp only [putAll, Act.put, List.setIfInBounds_toArray, List.set_cons_zero, List.set_cons_succ]; rfl)) (hJ1_3_4 (v250007, gb250009, gb250010) _ ⟨hHeld, (by (with_reducible repeat (first | apply Kd.R_alloc | apply Kd.R_drewN | apply Kd.R_drew)); exact HO250008.out), (by (with_reducible repeat (first | refine blk_drewN ?_ _ | refine blk_drew ?_ | refine blk_alloc ?_ _)); exact BK250001.out), (by (with_reducible repeat (first | refine blk_drewN ?_ _ | refine blk_drew ?_ | refine blk_alloc ?_ _)); exact BK250002.out), (by (with_reducible repeat (first | refine blk_drewN ?_ _ | refine blk_drew ?_ | refine blk_alloc ?_ _)); exact BK250003.out), (by (with_reducible repeat (first | refine blk_drewN ?_ _ | refine blk_drew ?_ | refine blk_alloc ?_ _)); exact BK250004.out), (by (with_reducible repeat (first | refine blk_drewN ?_ _ | refine blk_drew ?_ | refine blk_alloc ?_ _)); exact BK250009.out), (by (with_reducible repeat (first | refine blk_drewN ?_ _ | refine blk_drew ?_ | refine blk_alloc ?_ _)); exact BK250010.out), GW250009.out, GE250009.out, NB250001_250009.out, NB250009_250001.out, NB250002_250009.out, NB250009_250002.out, NB250003_250009.out, NB250009_250003.out, NB250004_250009.out, NB250009_250004.out, NB250010_250009.out, NB250009_250010.out, GW250010.out, GE250010.out, NB250001_250010.out, NB250010_250001.out, NB250002_250010.out, NB250010_250002.out, NB250003_250010.out, NB250010_250003.out, NB250004_250010.out, NB250010_250004.out, (by repeat (first | (with_reducible first | exact HB.out | apply below_alloc | apply pw_below_drewN | apply below_drew1 | refine below_set ?_ GE250001.out | refine below_set ?_ GE250002.out | refine below_set ?_ GE250003.out | refine below_set ?_ GE250004.out | refine below_set ?_ GE250009.out | refine below_set ?_ GE250010.out) | exact HB.out))⟩)
   rintro ⟨v250007, gb250009, gb250010⟩ w34 ⟨hS_, h0_, h1_, h2_, h3_, h4_, h5_, h6_, h7_, h8_, h9_, h10_, h11_, h12_, h13_, h14_, h15_, h16_, h17_, h18_, h19_, h20_, h21_, h22_, h23_, h24_, h25_, h26_, h27_, h28_, h29_⟩
   have n0_ : Aside0 (Kd.R (Kd.int .i64) 3 w34 w.heap.size (fun _ => True) v250007 t250006) := ⟨h0_⟩
   have n1_ : Aside0 (w34.heap[gb250001]? = some (.cells #[.string a0_0, .int .i64 a0_1] 23 (0, 0))) := ⟨h1_⟩
   have n2_ : Aside0 (w34.heap[gb250002]? = some (.cells #[.slice none 0 0] 24 (0, 0))) := ⟨h2_⟩
   have n3_ : Aside0 (w34.heap[gb250003]? = some (.cells #[.string (⟨#[]⟩ : ByteArray), .int .i64 0] 23 (0, 0))) := ⟨h3_⟩
   have n4_ : Aside0 (w34.heap[gb250004]? = some (.cells #[.int .i64 0] 31 (0, 0))) := ⟨h4_⟩
   have n5_ : Aside0 (w34.heap[gb250009]? = some (.cells #[.slice none 0 0] 24 (0, 0))) := ⟨h5_⟩
   have n6_ : Aside0 (w34.heap[gb250010]? = some (.cells #[.string (⟨#[]⟩ : ByteArray), .int .i64 0] 23 (0, 0))) := ⟨h6_⟩
   have n7_ : Aside0 (w.heap.size ≤ gb250009) := ⟨h7_⟩
   have n8_ : Aside0 (w.heap.size ≤ gb250009) := ⟨h8_⟩
   have n9_ : Aside0 (gb250001 ≠ gb250009) := ⟨h9_⟩
   have n10_ : Aside0 (gb250009 ≠ gb250001) := ⟨h10_⟩
   have n11_ : Aside0 (gb250002 ≠ gb250009) := ⟨h11_⟩
   have n12_ : Aside0 (gb250009 ≠ gb250002) := ⟨h12_⟩
   have n13_ : Aside0 (gb250003 ≠ gb250009) := ⟨h13_⟩
   have n14_ : Aside0 (gb250009 ≠ gb250003) := ⟨h14_⟩
   have n15_ : Aside0 (gb250004 ≠ gb250009) := ⟨h15_⟩
   have n16_ : Aside0 (gb250009 ≠ gb250004) := ⟨h16_⟩
   have n17_ : Aside0 (gb250010 ≠ gb250009) := ⟨h17_⟩
   have n18_ : Aside0 (gb250009 ≠ gb250010) := ⟨h18_⟩
   have n19_ : Aside0 (w.heap.size ≤ gb250010) := ⟨h19_⟩
   have n20_ : Aside0 (w.heap.size ≤ gb250010) := ⟨h20_⟩
   have n21_ : Aside0 (gb250001 ≠ gb250010) := ⟨h21_⟩
   have n22_ : Aside0 (gb250010 ≠ gb250001) := ⟨h22_⟩
   have n23_ : Aside0 (gb250002 ≠ gb250010) := ⟨h23_⟩
   have n24_ : Aside0 (gb250010 ≠ gb250002) := ⟨h24_⟩
   have n25_ : Aside0 (gb250003 ≠ gb250010) := ⟨h25_⟩
   have n26_ : Aside0 (gb250010 ≠ gb250003) := ⟨h26_⟩
   have n27_ : Aside0 (gb250004 ≠ gb250010) := ⟨h27_⟩
   have n28_ : Aside0 (gb250010 ≠ gb250004) := ⟨h28_⟩
   have n29_ : Aside0 (Below w.heap.size w w34) := ⟨h29_⟩
   clear BK250001
   clear BK250002
   clear BK250003
   clear BK250004
   clear HB
   clear h0_ h1_ h2_ h3_ h4_ h5_ h6_ h7_ h8_ h9_ h10_ h11_ h12_ h13_ h14_ h15_ h16_ h17_ h18_ h19_ h20_ h21_ h22_ h23_ h24_ h25_ h26_ h27_ h28_ h29_
   have HO250008 := n0_
   have BK250001 := n1_
   have BK250002 := n2_
   have BK250003 := n3_
   have BK250004 := n4_
   have BK250009 := n5_
   have BK250010 := n6_
   have GW250009 := n7_
   have GE250009 := n8_
   have NB250001_250009 := n9_
   have NB250009_250001 := n10_
   have NB250002_250009 := n11_
   have NB250009_250002 := n12_
   have NB250003_250009 := n13_
   have NB250009_250003 := n14_
   have NB250004_250009 := n15_
   have NB250009_250004 := n16_
   have NB250010_250009 := n17_
   have NB250009_250010 := n18_
   have GW250010 := n19_
   have GE250010 := n20_
   have NB250001_250010 := n21_
   have NB250010_250001 := n22_
   have NB250002_250010 := n23_
   have NB250010_250002 := n24_
   have NB250003_250010 := n25_
   have NB250010_250003 := n26_
   have NB250004_250010 := n27_
   have NB250010_250004 := n28_
   have HB := n29_
   clear n0_ n1_ n2_ n3_ n4_ n5_ n6_ n7_ n8_ n9_ n10_ n11_ n12_ n13_ n14_ n15_ n16_ n17_ n18_ n19_ n20_ n21_ n22_ n23_ n24_ n25_ n26_ n27_ n28_ n29_
   have hHeld : w34.cell? ⟨gb250001, 0, none⟩ = some (.string a0_0) ∧ w34.cell? ⟨gb250001, 1, none⟩ = some (.int .i64 a0_1) := hS_
   obtain ⟨Ao35, co35, eo35⟩ := Kd.R_slice HO250008.out
   (first | subst eo35 | (injection eo35 with f1_ f2_ f3_; have f4_ := f1_.symm; have f5_ := f3_.symm; clear f1_ f2_ f3_; subst f4_; subst f5_))
   refine norm_ (a' := ?_) ?_ ?_
   rotate_left
   ·simp only [putAll, Act.put, List.setIfInBounds_toArray, List.set_cons_zero, List.set_cons_succ]
    rfl
   refine one_ (i := 5) (N := none) #[true, true, true, true, true, true, false] rfl rfl (by kernel_rfl) (by decide) (fun K hK => ?_)
   have hs36 : w34.cell? ⟨gb250009, 0, none⟩ = some (.slice none 0 0) := (blk_cell BK250009.out 0).trans rfl
   have hfs36 := blk_frozen BK250009.out 0
   have hns36_0 := NB250001_250009.out
   have hns36_1 := NB250002_250009.out
   have hns36_2 := NB250003_250009.out
   have hns36_3 := NB250004_250009.out
   have hns36_5 := NB250010_250009.out
   have hms36_0 := NB250009_250001.out
   have hms36_1 := NB250009_250002.out
   have hms36_2 := NB250009_250003.out
   have hms36_3 := NB250009_250004.out
   have hms36_5 := NB250009_250010.out
   refine skip_ (w1 := ?_) (by rfl) rfl ?_ ?_
   rotate_left
   ·go_simp
    rfl
   refine hK.out _ _ ⟨((cell_far (p := ⟨gb250009, _, none⟩) NB250001_250009.out _).trans (hHeld.1)), ((cell_far (p := ⟨gb250009, _, none⟩) NB250001_250009.out _).trans (hHeld.2))⟩ (fun hHeld => ?_)
   clear hK K
   refine one_ (i := 6) (N := none) #[true, true, true, true, true, true, true] rfl rfl (by kernel_rfl) (by decide) (fun K hK => ?_)
   have hs37 : w34.cell? ⟨gb250010, 0, none⟩ = some (.string (⟨#[]⟩ : ByteArray)) := (blk_cell BK250010.out 0).trans rfl
   have hfs37 := blk_frozen BK250010.out 0
   have hns37_0 := NB250001_250010.out
   have hns37_1 := NB250002_250010.out
   have hns37_2 := NB250003_250010.out
   have hns37_3 := NB250004_250010.out
   have hns37_4 := NB250009_250010.out
   have hms37_0 := NB250010_250001.out
   have hms37_1 := NB250010_250002.out
   have hms37_2 := NB250010_250003.out
   have hms37_3 := NB250010_250004.out
   have hms37_4 := NB250010_250009.out
   have hs38 : w34.cell? ⟨gb250010, 1, none⟩ = some (.int .i64 0) := (blk_cell BK250010.out 1).trans rfl
   have hfs38 := blk_frozen BK250010.out 1
   have hns38_0 := NB250001_250010.out
   have hns38_1 := NB250002_250010.out
   have hns38_2 := NB250003_250010.out
   have hns38_3 := NB250004_250010.out
   have hns38_4 := NB250009_250010.out
   have hms38_0 := NB250010_250001.out
   have hms38_1 := NB250010_250002.out
   have hms38_2 := NB250010_250003.out
   have hms38_3 := NB250010_250004.out
   have hms38_4 := NB250010_250009.out
   refine skip_ (w1 := ?_) (by rfl) rfl ?_ ?_
   rotate_left
   ·go_simp
    rfl
   refine hK.out _ _ ⟨((cell_far (p := ⟨gb250010, _, none⟩) NB250001_250010.out _).trans (((cell_far (p := ⟨gb250010, _, none⟩) NB250001_250010.out _).trans (hHeld.1)))), ((cell_far (p := ⟨gb250010, _, none⟩) NB250001_250010.out _).trans (((cell_far (p := ⟨gb250010, _, none⟩) NB250001_250010.out _).trans (hHeld.2))))⟩ (fun hHeld => ?_)
   clear hK K
   refine done_ (by kernel_rfl) ?_
   try go_wp2
   have hn : l1.length ≤ 1000 := by have := of_decide_eq_false c5b1; omega
   have HN := Lib.hid hn
   clear hn
   generalize hW : World.alloc (World.setCell _ _ _) _ = W
   have hgD : ∃ gD, w34.heap.size = gD := ⟨_, rfl⟩
   obtain ⟨gD, hgD⟩ := hgD
   rw [hgD]
   have F1 : W.heap[gb250001]? = some (.cells #[.string a0_0, .int .i64 a0_1] 23 (0, 0)) := by rw [← hW]; exact blk_alloc (blk_far (blk_far (blk_far BK250001.out NB250001_250009.out _) NB250001_250010.out _) NB250001_250010.out _) _
   have F2 : W.heap[gb250002]? = some (.cells #[.slice none 0 0] 24 (0, 0)) := by rw [← hW]; exact blk_alloc (blk_far (blk_far (blk_far BK250002.out NB250002_250009.out _) NB250002_250010.out _) NB250002_250010.out _) _
   have F3 : W.heap[gb250003]? = some (.cells #[.string ⟨#[]⟩, .int .i64 0] 23 (0, 0)) := by rw [← hW]; exact blk_alloc (blk_far (blk_far (blk_far BK250003.out NB250003_250009.out _) NB250003_250010.out _) NB250003_250010.out _) _
   have F4 : W.heap[gb250004]? = some (.cells #[.int .i64 0] 31 (0, 0)) := by rw [← hW]; exact blk_alloc (blk_far (blk_far (blk_far BK250004.out NB250004_250009.out _) NB250004_250010.out _) NB250004_250010.out _) _
   have F9 : W.heap[gb250009]? = some (.cells #[.slice Ao35 t250006.length co35] 24 (0, 0)) := by rw [← hW]; exact blk_alloc (blk_far (blk_far (blk_set BK250009.out 0 _) NB250009_250010.out _) NB250009_250010.out _) _
   have F10 : W.heap[gb250010]? = some (.cells #[.string a0_0, .int .i64 a0_1] 23 (0, 0)) := by rw [← hW]; exact blk_alloc (blk_set (blk_set (blk_far BK250010.out NB250010_250009.out _) 0 _) 1 _) _
   have FD : W.heap[gD]? = some (.cells #[.int .i64 l1.length] 3 (0, 0)) := by rw [← hW, ← hgD]; simpa using heap_alloc_new (World.setCell (World.setCell (World.setCell w34 ⟨gb250009, 0, none⟩ (.slice Ao35 t250006.length co35)) ⟨gb250010, 0, none⟩ (.string a0_0)) ⟨gb250010, 1, none⟩ (.int .i64 a0_1)) (.cells #[.int .i64 l1.length] 3)
   have FR : Kd.R (Kd.int .i64) 3 W w.heap.size (fun _ => True) (.slice Ao35 t250006.length co35) t250006 := by
    have h1 := Kd.R_typed HO250008.out
    have hne : ∀ g : Nat, (∃ cs, w34.heap[g]? = some (.cells cs 24 (0, 0)) ∨ w34.heap[g]? = some (.cells cs 23 (0, 0))) → ∀ k, (Value.slice Ao35 t250006.length co35).ownBlock = some k → k ≠ g := by
     rintro g ⟨cs, hg⟩ k hk rfl
     obtain ⟨cells, hc⟩ := h1 k hk
     rcases hg with hg | hg <;> (rw [hc] at hg; cases hg)
    have h2 : Kd.R (Kd.int .i64) 3 w34 w.heap.size (fun k => some k = (Value.slice Ao35 t250006.length co35).ownBlock) (.slice Ao35 t250006.length co35) t250006 := XB.R_self HO250008.out
    have n9 := hne gb250009 ⟨_, .inl BK250009.out⟩
    have n10 := hne gb250010 ⟨_, .inr BK250010.out⟩
    rw [← hW]
    exact Kd.R_mono (Kd.R_alloc (Kd.R_far (Kd.R_far (Kd.R_far h2 (fun k hk => n9 k hk.symm) _) (fun k hk => n10 k hk.symm) _) (fun k hk => n10 k hk.symm) _) _) (fun _ _ => trivial)
   have FB : Below w.heap.size w W := by
    rw [← hW]
    exact below_alloc (below_set (below_set (below_set HB.out GE250009.out) GE250010.out) GE250010.out) _
   have hlen : t250006.length = l1.length := by
    have h_ := A20.out
    unfold slices_Clone_int_int.f at h_
    split at h_
    ·injection h_ with h_; rw [h_]
    ·cases h_
   have HLEN := Lib.hid hlen
   clear hlen
   have HDB := Lib.hid hgD
   have hWs : gD < W.heap.size := blk_lt FD
   have D29 : gb250002 ≠ gb250009 := NB250002_250009.out
   clear hgD hHeld hms36_0 hms36_1 hms36_2 hms36_3 hms36_5 hms37_0 hms37_1 hms37_2 hms37_3 hms37_4 hms38_0 hms38_1 hms38_2 hms38_3 hms38_4
   refine XB.wp_range1 (n := 9) (by omega) (gf := 68) (lb := #[.pointer (some ⟨gD, 0, none⟩)]) rfl (enters_of Try.func68 (by kernel_rfl) rfl) (fun k => .int .i64 ((l1.length : Int) - 1 - k)) (l1.length - 1) (down1_seq Fence.wide 8 trivial rfl (by omega) gD l1.length HN.out) (XB.OwnW.blk _ _ _ _) FD (fun _ _ h => h.elim) (fun _ _ => trivial) (fun _ _ _ _ _ _ _ => trivial) (by simp)
    (fun k W' => ∃ (v : Value) (s : List Int × ByteArray × Int), (turnRun l1.length k (t250006, a0_0, a0_1) = .inl s) ∧ W'.heap[gb250001]? = some (.cells #[.string a0_0, .int .i64 a0_1] 23 (0, 0)) ∧ W'.heap[gb250002]? = some (.cells #[.slice none 0 0] 24 (0, 0)) ∧ W'.heap[gb250003]? = some (.cells #[.string ⟨#[]⟩, .int .i64 0] 23 (0, 0)) ∧ W'.heap[gb250004]? = some (.cells #[.int .i64 0] 31 (0, 0)) ∧ W'.heap[gb250009]? = some (.cells #[v] 24 (0, 0)) ∧ W'.heap[gb250010]? = some (.cells #[.string s.2.1, .int .i64 s.2.2] 23 (0, 0)) ∧ Kd.R (Kd.int .i64) 3 W' w.heap.size (fun _ => True) v s.1 ∧ Below w.heap.size w W')
    (fun c k W' => c = .ret ∧ ∃ e : Int, turnRun l1.length k (t250006, a0_0, a0_1) = .inr e ∧ W'.heap[gb250002]? = some (.cells #[.slice none 0 0] 24 (0, 0)) ∧ W'.heap[gb250003]? = some (.cells #[.string a0_0, .int .i64 a0_1] 23 (0, 0)) ∧ W'.heap[gb250004]? = some (.cells #[.int .i64 e] 31 (0, 0)) ∧ Below w.heap.size w W')
    (fun k => .ex fun v => .ex fun s => .and (.pure _) (.and (.blk _ _ _ _) (.and (.blk _ _ _ _) (.and (.blk _ _ _ _) (.and (.blk _ _ _ _) (.and (.blk _ _ _ _) (.and (.blk _ _ _ _) (.and (.row _ _ _ _ _ _) (.below (Nat.le_refl _) FB.size)))))))))
    (fun c k => .and (.pure _) (.ex fun e => .and (.pure _) (.and (.blk _ _ _ _) (.and (.blk _ _ _ _) (.and (.blk _ _ _ _) (.below (Nat.le_refl _) FB.size))))))
    (fun _ _ _ _ h => h.elim) (fun _ _ _ _ _ h => h.elim) ⟨_, _, rfl, F1, F2, F3, F4, F9, F10, FR, FB⟩ ?body ?done ?stop
   case body =>
    rintro l k W' ⟨v, ⟨ls, bs, ps⟩, hs, G1, G2, G3, G4, G9, G10, GR, GB⟩ hk
    have hk2 : k + 1 < l1.length := by omega
    have hn := HN.out
    obtain ⟨i, hi⟩ : ∃ i : Int, (l1.length : Int) - 1 - k = i := ⟨_, rfl⟩
    rw [hi]
    have hi1 : 1 ≤ i := by omega
    have hi2 : i ≤ 999 := by omega
    have hstep : turnRun l1.length (k + 1) (t250006, a0_0, a0_1) = turnStep (ls, bs, ps) i := by
     show (match turnRun l1.length k (t250006, a0_0, a0_1) with | .inl s' => turnStep s' ((l1.length : Int) - 1 - k) | .inr e => .inr e) = _
     rw [hs, hi]
    have hll : ls.length = l1.length := (turnRun_len hs).trans HLEN.out
    have hnum := number_eq bs ps (i + 1) 3
    have hrange := @numP_err bs ps (i + 1) (by omega)
    unfold turnStep at hstep
    dsimp only at hstep G10 GR
    obtain ⟨⟨q1, q2, q3, q4⟩, hq⟩ : ∃ q, numP bs ps (i + 1) = q := ⟨_, rfl⟩
    rw [hq] at hstep hnum hrange
    dsimp only at hstep hrange
    have HNUM := Lib.hid hnum
    have HSTEP := Lib.hid hstep
    have hil : i < (ls.length : Int) := by omega
    clear hnum hstep hq hs hi hk hk2 hn hll
    obtain ⟨Av, cv, ev⟩ := Kd.R_slice GR
    subst ev
    have c10a := (blk_cell G10 0).trans rfl
    have c10b := (blk_cell G10 1).trans rfl
    by_cases h4 : q4 = 0
    ·subst h4
     obtain ⟨hq0, hq1⟩ := hrange rfl
     clear hrange
     have HG1 := Lib.hid G1; have HG2 := Lib.hid G2; have HG3 := Lib.hid G3; have HG4 := Lib.hid G4; have HG9 := Lib.hid G9; have HG10 := Lib.hid G10; have HGR := Lib.hid GR; have HGB := Lib.hid GB
     clear G1 G2 G3 G4 G9 G10 GR GB
     gi_wp2_with fail
     refine ⟨trivial, ?_⟩
     refine (CallsIn.inRound l (callsIn_wide.2 (tape_Number.calls (3 + 2) bs ps (i + 1) q1 q2 q3 0 _ HNUM.out))).mono ?_
     rintro e W1 ⟨rfl, hb⟩
     have HB1 := Lib.hid hb
     clear hb
     have J9 := XB.blk_same HG9.out HB1.out
     have c9 : ∀ o, (W1.alloc o).cell? ⟨gb250009, 0, none⟩ = some (.slice Av ls.length cv) := fun o => (blk_cell (blk_alloc J9 o) 0).trans rfl
     clear J9
     gi_wp2_with fail
     refine ⟨trivial, ?_⟩
     generalize hV : W1.alloc _ = V
     have V1 : V.heap[gb250001]? = some (.cells #[.string a0_0, .int .i64 a0_1] 23 (0, 0)) := by rw [← hV]; exact blk_alloc (XB.blk_same HG1.out HB1.out) _
     have V2 : V.heap[gb250002]? = some (.cells #[.slice none 0 0] 24 (0, 0)) := by rw [← hV]; exact blk_alloc (XB.blk_same HG2.out HB1.out) _
     have V3 : V.heap[gb250003]? = some (.cells #[.string ⟨#[]⟩, .int .i64 0] 23 (0, 0)) := by rw [← hV]; exact blk_alloc (XB.blk_same HG3.out HB1.out) _
     have V4 : V.heap[gb250004]? = some (.cells #[.int .i64 0] 31 (0, 0)) := by rw [← hV]; exact blk_alloc (XB.blk_same HG4.out HB1.out) _
     have V9 : V.heap[gb250009]? = some (.cells #[.slice Av ls.length cv] 24 (0, 0)) := by rw [← hV]; exact blk_alloc (XB.blk_same HG9.out HB1.out) _
     have V10 : V.heap[gb250010]? = some (.cells #[.string bs, .int .i64 ps] 23 (0, 0)) := by rw [← hV]; exact blk_alloc (XB.blk_same HG10.out HB1.out) _
     have V11 : V.heap[W1.heap.size]? = some (.cells #[.string q2, .int .i64 q3] 23 (0, 0)) := by rw [← hV]; exact heap_alloc_new _ _
     have VB : Below w.heap.size w V := by rw [← hV]; exact below_alloc (below_step HGB.out HB1.out) _
     have VR : Kd.R (Kd.int .i64) 3 V w.heap.size (fun k_ => some k_ = (Value.slice Av ls.length cv).ownBlock) (.slice Av ls.length cv) ls := by rw [← hV]; exact Kd.R_alloc (Kd.R_below (XB.R_self HGR.out) HB1.out) _
     have hsw : tape_swap_int.f ls q1 i = some ((ls.set q1.toNat (rd ls i)).set i.toNat (rd ls q1)) := by
      unfold tape_swap_int.f
      rw [if_pos (by omega), if_pos (by omega), if_pos (by omega), if_pos (by omega)]
     refine (CallsIn.inRound l (callsIn_wide.2 (tape_swap_int.calls _ _ ls q1 i _ w V VB VR hsw))).mono ?_
     rintro e W2 ⟨rfl, hR2, hB2, hK2⟩
     have U1 := XB.blk_kept VR hK2 V1 (by decide)
     have U2 := XB.blk_kept VR hK2 V2 (by decide)
     have U3 := XB.blk_kept VR hK2 V3 (by decide)
     have U4 := XB.blk_kept VR hK2 V4 (by decide)
     have U9 := XB.blk_kept VR hK2 V9 (by decide)
     have U10 := XB.blk_kept VR hK2 V10 (by decide)
     have U11 := XB.blk_kept VR hK2 V11 (by decide)
     have KF := Lib.hid (show KeepsFrom W.heap.size W' W2 from (XB.keeps_alloc (XB.keeps_below HB1.out) _).trans (by rw [hV]; exact XB.keeps_row VR hK2))
     have c11a := (blk_cell U11 0).trans rfl
     have c11b := (blk_cell U11 1).trans rfl
     have d10a := (blk_cell U10 0).trans rfl
     have d10b := (blk_cell U10 1).trans rfl
     have f10a := blk_frozen U10 0
     have f10b := blk_frozen U10 1
     have HR2 := Lib.hid hR2
     have HB2 := Lib.hid hB2
     have HU1 := Lib.hid U1; have HU2 := Lib.hid U2; have HU3 := Lib.hid U3; have HU4 := Lib.hid U4; have HU9 := Lib.hid U9; have HU10 := Lib.hid U10
     have HQ := Lib.hid (show gb250010 ≠ W1.heap.size from Nat.ne_of_lt (blk_lt (XB.blk_same HG10.out HB1.out)))
     have hq1 := HQ.out
     clear U1 U2 U3 U4 U9 U10 U11 V1 V2 V3 V4 V9 V10 V11 VB VR hsw hR2 hB2 hK2 hV c9 HB1
     gi_wp2
     have N1 := NB250001_250010.out; have N2 := NB250002_250010.out; have N3 := NB250003_250010.out; have N4 := NB250004_250010.out; have N9 := NB250009_250010.out
     refine ⟨XB.keeps_set (XB.keeps_set KF.out _ _) _ _, trivial, .slice Av ls.length cv, ((ls.set q1.toNat (rd ls i)).set i.toNat (rd ls q1), q2, q3), (by rw [HSTEP.out, if_pos trivial]), blk_far (blk_far HU1.out N1 _) N1 _, blk_far (blk_far HU2.out N2 _) N2 _, blk_far (blk_far HU3.out N3 _) N3 _, blk_far (blk_far HU4.out N4 _) N4 _, blk_far (blk_far HU9.out N9 _) N9 _, blk_set (blk_set HU10.out 0 _) 1 _, XB.row_set (XB.row_set HR2.out HU10.out (by decide) 0 _) (blk_set HU10.out 0 _) (by decide) 1 _, below_set (below_set HB2.out GE250010.out) GE250010.out⟩
    ·clear hrange
     rw [if_neg h4] at HSTEP
     have HG1 := Lib.hid G1; have HG2 := Lib.hid G2; have HG3 := Lib.hid G3; have HG4 := Lib.hid G4; have HG9 := Lib.hid G9; have HG10 := Lib.hid G10; have HGR := Lib.hid GR; have HGB := Lib.hid GB
     clear G1 G2 G3 G4 G9 G10 GR GB
     gi_wp2_with fail
     refine ⟨trivial, ?_⟩
     refine (CallsIn.inRound l (callsIn_wide.2 (tape_Number.calls (3 + 2) bs ps (i + 1) q1 q2 q3 q4 _ HNUM.out))).mono ?_
     rintro e W1 ⟨rfl, hb⟩
     have HB1 := Lib.hid hb
     clear hb
     have J1 := XB.blk_same HG1.out HB1.out
     have J2 := XB.blk_same HG2.out HB1.out
     have J3 := XB.blk_same HG3.out HB1.out
     have J4 := XB.blk_same HG4.out HB1.out
     have HJ2 := Lib.hid J2; have HJ3 := Lib.hid J3; have HJ4 := Lib.hid J4
     have c1a : ∀ o, (W1.alloc o).cell? ⟨gb250001, 0, none⟩ = some (.string a0_0) := fun o => (blk_cell (blk_alloc J1 o) 0).trans rfl
     have c1b : ∀ o, (W1.alloc o).cell? ⟨gb250001, 1, none⟩ = some (.int .i64 a0_1) := fun o => (blk_cell (blk_alloc J1 o) 1).trans rfl
     have c2a : ∀ o, (W1.alloc o).cell? ⟨gb250002, 0, none⟩ = some (.slice none 0 0) := fun o => (blk_cell (blk_alloc J2 o) 0).trans rfl
     have c3a : ∀ o, (W1.alloc o).cell? ⟨gb250003, 0, none⟩ = some (.string ⟨#[]⟩) := fun o => (blk_cell (blk_alloc J3 o) 0).trans rfl
     have c3b : ∀ o, (W1.alloc o).cell? ⟨gb250003, 1, none⟩ = some (.int .i64 0) := fun o => (blk_cell (blk_alloc J3 o) 1).trans rfl
     have c4a : ∀ o, (W1.alloc o).cell? ⟨gb250004, 0, none⟩ = some (.int .i64 0) := fun o => (blk_cell (blk_alloc J4 o) 0).trans rfl
     have d2a : ∀ o, (W1.alloc o).frozen? ⟨gb250002, 0, none⟩ = false := fun o => blk_frozen (blk_alloc J2 o) 0
     have d3a : ∀ o, (W1.alloc o).frozen? ⟨gb250003, 0, none⟩ = false := fun o => blk_frozen (blk_alloc J3 o) 0
     have d3b : ∀ o, (W1.alloc o).frozen? ⟨gb250003, 1, none⟩ = false := fun o => blk_frozen (blk_alloc J3 o) 1
     have d4a : ∀ o, (W1.alloc o).frozen? ⟨gb250004, 0, none⟩ = false := fun o => blk_frozen (blk_alloc J4 o) 0
     clear J1 J2 J3 J4
     have N23 := NB250002_250003.out; have N24 := NB250002_250004.out; have N34 := NB250003_250004.out; have N21 := NB250001_250002.out; have N13 := NB250001_250003.out
     have N32 := NB250003_250002.out; have N42 := NB250004_250002.out; have N43 := NB250004_250003.out
     gi_wp2
     gi_region
     all_goals
      gi_wp2
      refine ⟨?_, rfl, q4, HSTEP.out, ?_, ?_, ?_, ?_⟩
      ·(repeat (first | with_reducible exact ((XB.keeps_below HB1.out)) | with_reducible refine XB.keeps_drew ?_ | with_reducible refine XB.keeps_alloc ?_ _ | with_reducible refine XB.keeps_set ?_ _ _))
      ·(repeat (first | with_reducible exact (HJ2.out) | with_reducible refine XB.blk_drew ?_ | with_reducible refine blk_alloc ?_ _ | with_reducible refine blk_far ?_ (by first | assumption | (refine Ne.symm ?_; assumption)) _ | with_reducible apply XB.put10 | with_reducible apply XB.put20 | with_reducible apply XB.put21 | with_reducible apply XB.put30 | with_reducible apply XB.put31 | with_reducible apply XB.put32 | with_reducible apply XB.put40 | with_reducible apply XB.put41 | with_reducible apply XB.put42 | with_reducible apply XB.put43))
      ·(repeat (first | with_reducible exact (HJ3.out) | with_reducible refine XB.blk_drew ?_ | with_reducible refine blk_alloc ?_ _ | with_reducible refine blk_far ?_ (by first | assumption | (refine Ne.symm ?_; assumption)) _ | with_reducible apply XB.put10 | with_reducible apply XB.put20 | with_reducible apply XB.put21 | with_reducible apply XB.put30 | with_reducible apply XB.put31 | with_reducible apply XB.put32 | with_reducible apply XB.put40 | with_reducible apply XB.put41 | with_reducible apply XB.put42 | with_reducible apply XB.put43))
      ·(repeat (first | with_reducible exact (HJ4.out) | with_reducible refine XB.blk_drew ?_ | with_reducible refine blk_alloc ?_ _ | with_reducible refine blk_far ?_ (by first | assumption | (refine Ne.symm ?_; assumption)) _ | with_reducible apply XB.put10 | with_reducible apply XB.put20 | with_reducible apply XB.put21 | with_reducible apply XB.put30 | with_reducible apply XB.put31 | with_reducible apply XB.put32 | with_reducible apply XB.put40 | with_reducible apply XB.put41 | with_reducible apply XB.put42 | with_reducible apply XB.put43))
      ·have G2_ := GE250002.out; have G3_ := GE250003.out; have G4_ := GE250004.out
       (repeat (first | with_reducible exact ((below_step HGB.out HB1.out)) | with_reducible refine below_drew ?_ | with_reducible refine below_alloc ?_ _ | with_reducible refine below_set ?_ (by first | assumption | exact Aside0.out (by assumption))))
   case done =>
    rintro D W' hD ⟨v, ⟨ls, bs, ps⟩, hs, G1, G2, G3, G4, G9, G10, GR, GB⟩ hDD
    rename_i K_ hK_
    refine hK_ _ _ ?_
    clear hK_
    dsimp only at G10 GR
    obtain ⟨Av, cv, ev⟩ := Kd.R_slice GR
    subst ev
    have c9 := (blk_cell G9 0).trans rfl
    have c10a := (blk_cell G10 0).trans rfl
    have c10b := (blk_cell G10 1).trans rfl
    have c2a := (blk_cell G2 0).trans rfl
    have c3a := (blk_cell G3 0).trans rfl
    have c3b := (blk_cell G3 1).trans rfl
    have c4a := (blk_cell G4 0).trans rfl
    have d2a := blk_frozen G2 0
    have d3a := blk_frozen G3 0
    have d3b := blk_frozen G3 1
    have d4a := blk_frozen G4 0
    have N23 := NB250002_250003.out; have N24 := NB250002_250004.out; have N34 := NB250003_250004.out
    have N32 := NB250003_250002.out; have N42 := NB250004_250002.out; have N43 := NB250004_250003.out
    have HG2 := Lib.hid G2; have HG3 := Lib.hid G3; have HG4 := Lib.hid G4; have HGR := Lib.hid GR; have HGB := Lib.hid GB; have HDD := Lib.hid hDD
    clear G1 G2 G3 G4 G9 G10 GR GB hDD
    have hr : rest a0_0 a0_1 t250006 a0_0 a0_1 l1 = some (ls, bs, ps, 0) := by
     unfold rest
     rw [hs]
    have hq := H'.out.symm.trans hr
    injection hq with hq
    injection hq with e1 hq
    injection hq with e2 hq
    injection hq with e3 e4
    subst e1 e2 e3 e4
    have W2_ := blk_lt F2; have W3_ := blk_lt F3; have W4_ := blk_lt F4
    go_wp2
    go_region
    all_goals
     go_wp2
     generalize hX : World.drew _ = X
     have XK : KeepsFrom W.heap.size W' X := by rw [← hX]; (repeat (first | with_reducible exact ((KeepsFrom.refl W.heap.size W')) | with_reducible refine XB.keeps_drew ?_ | with_reducible refine XB.keeps_alloc ?_ _ | with_reducible refine XB.keeps_set ?_ _ _))
     have X2 : X.heap[gb250002]? = some (.cells #[.slice Av r1.length cv] 24 (0, 0)) := by rw [← hX]; (repeat (first | with_reducible exact (HG2.out) | with_reducible refine XB.blk_drew ?_ | with_reducible refine blk_alloc ?_ _ | with_reducible refine blk_far ?_ (by first | assumption | (refine Ne.symm ?_; assumption)) _ | with_reducible apply XB.put10 | with_reducible apply XB.put20 | with_reducible apply XB.put21 | with_reducible apply XB.put30 | with_reducible apply XB.put31 | with_reducible apply XB.put32 | with_reducible apply XB.put40 | with_reducible apply XB.put41 | with_reducible apply XB.put42 | with_reducible apply XB.put43))
     have X3 : X.heap[gb250003]? = some (.cells #[.string r2, .int .i64 r3] 23 (0, 0)) := by rw [← hX]; (repeat (first | with_reducible exact (HG3.out) | with_reducible refine XB.blk_drew ?_ | with_reducible refine blk_alloc ?_ _ | with_reducible refine blk_far ?_ (by first | assumption | (refine Ne.symm ?_; assumption)) _ | with_reducible apply XB.put10 | with_reducible apply XB.put20 | with_reducible apply XB.put21 | with_reducible apply XB.put30 | with_reducible apply XB.put31 | with_reducible apply XB.put32 | with_reducible apply XB.put40 | with_reducible apply XB.put41 | with_reducible apply XB.put42 | with_reducible apply XB.put43))
     have X4 : X.heap[gb250004]? = some (.cells #[.int .i64 0] 31 (0, 0)) := by rw [← hX]; (repeat (first | with_reducible exact (HG4.out) | with_reducible refine XB.blk_drew ?_ | with_reducible refine blk_alloc ?_ _ | with_reducible refine blk_far ?_ (by first | assumption | (refine Ne.symm ?_; assumption)) _ | with_reducible apply XB.put10 | with_reducible apply XB.put20 | with_reducible apply XB.put21 | with_reducible apply XB.put30 | with_reducible apply XB.put31 | with_reducible apply XB.put32 | with_reducible apply XB.put40 | with_reducible apply XB.put41 | with_reducible apply XB.put42 | with_reducible apply XB.put43))
     have XD : X.heap[D]? = some (.deferred (some [])) := XK.same D _ hD HDD.out rfl
     have XBl : Below w.heap.size w X := by
      have G2_ := GE250002.out; have G3_ := GE250003.out; have G4_ := GE250004.out
      rw [← hX]
      (repeat (first | with_reducible exact (HGB.out) | with_reducible refine below_drew ?_ | with_reducible refine below_alloc ?_ _ | with_reducible refine below_set ?_ (by first | assumption | exact Aside0.out (by assumption))))
     have XR : Kd.R (Kd.int .i64) 3 X w.heap.size (fun _ => True) (.slice Av r1.length cv) r1 := by
      have o2 := XB.own_ne HGR.out HG2.out (by decide)
      have o3 := XB.own_ne HGR.out HG3.out (by decide)
      have o4 := XB.own_ne HGR.out HG4.out (by decide)
      have hs_ : Kd.R (Kd.int .i64) 3 W' w.heap.size (fun k => some k = (Value.slice Av r1.length cv).ownBlock) (.slice Av r1.length cv) r1 := XB.R_self HGR.out
      rw [← hX]
      refine Kd.R_mono (ok := fun k => some k = (Value.slice Av r1.length cv).ownBlock) ?_ (fun _ _ => trivial)
      ((repeat (first | with_reducible exact (hs_) | with_reducible refine XB.row_drew ?_ | with_reducible refine Kd.R_alloc ?_ _ | with_reducible refine Kd.R_far ?_ (by assumption) _)))
     clear hX
     have P2 := (XB.OwnW.blk (B := W.heap.size) _ _ _ _).putObj (.deferred none) X2 hD XD rfl
     have P3 := (XB.OwnW.blk (B := W.heap.size) _ _ _ _).putObj (.deferred none) X3 hD XD rfl
     have P4 := (XB.OwnW.blk (B := W.heap.size) _ _ _ _).putObj (.deferred none) X4 hD XD rfl
     change XB.QM _ _ _ _ _ _ _
     refine XB.QM_ret (.inl rfl) XD (XB.resultsX_list (vs := [.slice Av r1.length cv, .agg #[.string r2, .int .i64 r3], .int .i64 0]) rfl (by simp) (.one gb250002 _ _ _ _ rfl P2 rfl rfl (.cell gb250003 _ _ _ _ rfl P3 hu23 rfl rfl (.one gb250004 _ _ _ _ rfl P4 rfl rfl .nil)))) ?_
     exact ⟨_, rfl, (XB.OwnW.row (B := W.heap.size) _ _ _ _ _ _).putObj _ XR hD XD rfl, (XB.OwnW.below (Nat.le_refl _) FB.size).putObj _ XBl hD XD rfl⟩
   case stop =>
    rintro D c k W' hD hk ⟨rfl, e, hs, G2, G3, G4, GB⟩ hDD
    have hD2 : gb250002 ≠ D := Nat.ne_of_lt (Nat.lt_of_lt_of_le (blk_lt F2) hD)
    have hD3 : gb250003 ≠ D := Nat.ne_of_lt (Nat.lt_of_lt_of_le (blk_lt F3) hD)
    have hD4 : gb250004 ≠ D := Nat.ne_of_lt (Nat.lt_of_lt_of_le (blk_lt F4) hD)
    have hr : rest a0_0 a0_1 t250006 a0_0 a0_1 l1 = some ([], a0_0, a0_1, e) := by
     have h2 := turnRun_stop hs (l1.length - 1 - k)
     rw [show k + (l1.length - 1 - k) = l1.length - 1 from by omega] at h2
     unfold rest
     rw [h2]
    have hq := H'.out.symm.trans hr
    injection hq with hq
    injection hq with e1 hq
    injection hq with e2 hq
    injection hq with e3 e4
    subst e1 e2 e3 e4
    go_wp2
    have P2 := (XB.OwnW.blk (B := W.heap.size) _ _ _ _).putObj (.deferred none) G2 hD hDD rfl
    have P3 := (XB.OwnW.blk (B := W.heap.size) _ _ _ _).putObj (.deferred none) G3 hD hDD rfl
    have P4 := (XB.OwnW.blk (B := W.heap.size) _ _ _ _).putObj (.deferred none) G4 hD hDD rfl
    change XB.QM _ _ _ _ _ _ _
    refine XB.QM_ret (.inl rfl) hDD (XB.resultsX_list (vs := [.slice none 0 0, .agg #[.string r2, .int .i64 r3], .int .i64 r4]) rfl (by simp) (.one gb250002 _ _ _ _ rfl P2 rfl rfl (.cell gb250003 _ _ _ _ rfl P3 hu23 rfl rfl (.one gb250004 _ _ _ _ rfl P4 rfl rfl .nil)))) ?_
    exact ⟨_, rfl, Kd.R_nil _ _ _ _ _, (XB.OwnW.below (Nat.le_refl _) FB.size).putObj _ GB hD hDD rfl⟩
   
 ·replace c4 := Bool.eq_false_iff.mpr c4
  subst c4
  have H1 : (some (([] : List Int), a0_0, a0_1, 1)) = some (r1, r2, r3, r4) := by rw [if_neg (show ¬ (false = true) by decide)] at H; exact H
  clear H
  have H := H1
  clear H1
  simp only [Option.some.injEq, Prod.mk.injEq] at H
  obtain ⟨rfl, rfl, rfl, rfl⟩ := H
  refine (callsIn_wide (n := 9)).1 (callsIn_of_wp_marks Try.func25 rfl trivial ?_ rfl)
  refine XB.QM_wp ?_
  simp only [Try.ntmps25, List.size_toArray, List.length_cons, List.length_nil, Nat.reduceAdd, Nat.reduceSub, Array.replicate_succ, Array.replicate_zero, List.push_toArray, List.append_toArray, List.nil_append, List.cons_append]
  try go_wp2_with (first | ((with_reducible refine gate_dst (N := 2) rfl ?_); refine box_event ?hg (N := 2) ?hd (cs := #[.string a0_0, .int .i64 a0_1]) (t := 23) ?hr ?_; (case hd => rfl); (case hg => rfl); (case hr => first | (go_simp; done) | (go_simp; rfl)); intro gb250001 hg w39 hbox hb; have n0_ := Aside0.mk (below_step (by repeat (first | (with_reducible first | exact HB.out | apply below_alloc | apply pw_below_drewN | apply below_drew1) | exact HB.out)) hb); have n1_ := Aside0.mk (hbox); have n2_ := Aside0.mk ((by rw [hg]; exact (below_size (by repeat (first | (with_reducible first | exact HB.out | apply below_alloc | apply pw_below_drewN | apply below_drew1) | exact HB.out))) : w.heap.size ≤ gb250001)); have n3_ := Aside0.mk ((by rw [hg]; exact (below_size (by repeat (first | (with_reducible first | exact HB.out | apply below_alloc | apply pw_below_drewN | apply below_drew1) | exact HB.out))) : w.heap.size ≤ gb250001)); clear HB; have HB := n0_; have BK250001 := n1_; have GW250001 := n2_; have GE250001 := n3_; clear n0_ n1_ n2_ n3_; clear hb hbox hg) | ((with_reducible refine gate_dst (N := 4) rfl ?_); refine box_event ?hg (N := 4) ?hd (cs := #[.slice none 0 0]) (t := 24) ?hr ?_; (case hd => rfl); (case hg => rfl); (case hr => first | (go_simp; done) | (go_simp; rfl)); intro gb250002 hg w40 hbox hb; have n0_ := Aside0.mk (blk_below (g := gb250001) (o := .cells #[.string a0_0, .int .i64 a0_1] 23 (0, 0)) (by (with_reducible repeat (first | refine blk_drewN ?_ _ | refine blk_drew ?_ | refine blk_alloc ?_ _)); exact BK250001.out) hb); have n1_ := Aside0.mk (below_step (by repeat (first | (with_reducible first | exact HB.out | apply below_alloc | apply pw_below_drewN | apply below_drew1 | refine below_set ?_ GE250001.out) | exact HB.out)) hb); have n2_ := Aside0.mk (hbox); have n3_ := Aside0.mk ((by rw [hg]; exact (below_size (by repeat (first | (with_reducible first | exact HB.out | apply below_alloc | apply pw_below_drewN | apply below_drew1 | refine below_set ?_ GE250001.out) | exact HB.out))) : w.heap.size ≤ gb250002)); have n4_ := Aside0.mk ((by rw [hg]; exact (below_size (by repeat (first | (with_reducible first | exact HB.out | apply below_alloc | apply pw_below_drewN | apply below_drew1 | refine below_set ?_ GE250001.out) | exact HB.out))) : w.heap.size ≤ gb250002)); have n5_ := Aside0.mk ((by rw [hg]; exact Nat.ne_of_lt (blk_lt (g := gb250001) (o := .cells #[.string a0_0, .int .i64 a0_1] 23 (0, 0)) (by (with_reducible repeat (first | refine blk_drewN ?_ _ | refine blk_drew ?_ | refine blk_alloc ?_ _)); exact BK250001.out)) : gb250001 ≠ gb250002)); have n6_ := Aside0.mk ((by rw [hg]; exact Nat.ne_of_gt (blk_lt (g := gb250001) (o := .cells #[.string a0_0, .int .i64 a0_1] 23 (0, 0)) (by (with_reducible repeat (first | refine blk_drewN ?_ _ | refine blk_drew ?_ | refine blk_alloc ?_ _)); exact BK250001.out)) : gb250002 ≠ gb250001)); clear BK250001; clear HB; have BK250001 := n0_; have HB := n1_; have BK250002 := n2_; have GW250002 := n3_; have GE250002 := n4_; have NB250001_250002 := n5_; have NB250002_250001 := n6_; clear n0_ n1_ n2_ n3_ n4_ n5_ n6_; clear hb hbox hg) | ((with_reducible refine gate_dst (N := 5) rfl ?_); refine box_event ?hg (N := 5) ?hd (cs := #[.string (⟨#[]⟩ : ByteArray), .int .i64 0]) (t := 23) ?hr ?_; (case hd => rfl); (case hg => rfl); (case hr => first | (go_simp; done) | (go_simp; rfl)); intro gb250003 hg w41 hbox hb; have n0_ := Aside0.mk (blk_below (g := gb250001) (o := .cells #[.string a0_0, .int .i64 a0_1] 23 (0, 0)) (by (with_reducible repeat (first | refine blk_drewN ?_ _ | refine blk_drew ?_ | refine blk_alloc ?_ _)); exact BK250001.out) hb); have n1_ := Aside0.mk (blk_below (g := gb250002) (o := .cells #[.slice none 0 0] 24 (0, 0)) (by (with_reducible repeat (first | refine blk_drewN ?_ _ | refine blk_drew ?_ | refine blk_alloc ?_ _)); exact BK250002.out) hb); have n2_ := Aside0.mk (below_step (by repeat (first | (with_reducible first | exact HB.out | apply below_alloc | apply pw_below_drewN | apply below_drew1 | refine below_set ?_ GE250001.out | refine below_set ?_ GE250002.out) | exact HB.out)) hb); have n3_ := Aside0.mk (hbox); have n4_ := Aside0.mk ((by rw [hg]; exact (below_size (by repeat (first | (with_reducible first | exact HB.out | apply below_alloc | apply pw_below_drewN | apply below_drew1 | refine below_set ?_ GE250001.out | refine below_set ?_ GE250002.out) | exact HB.out))) : w.heap.size ≤ gb250003)); have n5_ := Aside0.mk ((by rw [hg]; exact (below_size (by repeat (first | (with_reducible first | exact HB.out | apply below_alloc | apply pw_below_drewN | apply below_drew1 | refine below_set ?_ GE250001.out | refine below_set ?_ GE250002.out) | exact HB.out))) : w.heap.size ≤ gb250003)); have n6_ := Aside0.mk ((by rw [hg]; exact Nat.ne_of_lt (blk_lt (g := gb250001) (o := .cells #[.string a0_0, .int .i64 a0_1] 23 (0, 0)) (by (with_reducible repeat (first | refine blk_drewN ?_ _ | refine blk_drew ?_ | refine blk_alloc ?_ _)); exact BK250001.out)) : gb250001 ≠ gb250003)); have n7_ := Aside0.mk ((by rw [hg]; exact Nat.ne_of_gt (blk_lt (g := gb250001) (o := .cells #[.string a0_0, .int .i64 a0_1] 23 (0, 0)) (by (with_reducible repeat (first | refine blk_drewN ?_ _ | refine blk_drew ?_ | refine blk_alloc ?_ _)); exact BK250001.out)) : gb250003 ≠ gb250001)); have n8_ := Aside0.mk ((by rw [hg]; exact Nat.ne_of_lt (blk_lt (g := gb250002) (o := .cells #[.slice none 0 0] 24 (0, 0)) (by (with_reducible repeat (first | refine blk_drewN ?_ _ | refine blk_drew ?_ | refine blk_alloc ?_ _)); exact BK250002.out)) : gb250002 ≠ gb250003)); have n9_ := Aside0.mk ((by rw [hg]; exact Nat.ne_of_gt (blk_lt (g := gb250002) (o := .cells #[.slice none 0 0] 24 (0, 0)) (by (with_reducible repeat (first | refine blk_drewN ?_ _ | refine blk_drew ?_ | refine blk_alloc ?_ _)); exact BK250002.out)) : gb250003 ≠ gb250002)); clear BK250001; clear BK250002; clear HB; have BK250001 := n0_; have BK250002 := n1_; have HB := n2_; have BK250003 := n3_; have GW250003 := n4_; have GE250003 := n5_; have NB250001_250003 := n6_; have NB250003_250001 := n7_; have NB250002_250003 := n8_; have NB250003_250002 := n9_; clear n0_ n1_ n2_ n3_ n4_ n5_ n6_ n7_ n8_ n9_; clear hb hbox hg) | ((with_reducible refine gate_dst (N := 6) rfl ?_); refine box_event ?hg (N := 6) ?hd (cs := #[.int .i64 0]) (t := 31) ?hr ?_; (case hd => rfl); (case hg => rfl); (case hr => first | (go_simp; done) | (go_simp; rfl)); intro gb250004 hg w42 hbox hb; have n0_ := Aside0.mk (blk_below (g := gb250001) (o := .cells #[.string a0_0, .int .i64 a0_1] 23 (0, 0)) (by (with_reducible repeat (first | refine blk_drewN ?_ _ | refine blk_drew ?_ | refine blk_alloc ?_ _)); exact BK250001.out) hb); have n1_ := Aside0.mk (blk_below (g := gb250002) (o := .cells #[.slice none 0 0] 24 (0, 0)) (by (with_reducible repeat (first | refine blk_drewN ?_ _ | refine blk_drew ?_ | refine blk_alloc ?_ _)); exact BK250002.out) hb); have n2_ := Aside0.mk (blk_below (g := gb250003) (o := .cells #[.string (⟨#[]⟩ : ByteArray), .int .i64 0] 23 (0, 0)) (by (with_reducible repeat (first | refine blk_drewN ?_ _ | refine blk_drew ?_ | refine blk_alloc ?_ _)); exact BK250003.out) hb); have n3_ := Aside0.mk (below_step (by repeat (first | (with_reducible first | exact HB.out | apply below_alloc | apply pw_below_drewN | apply below_drew1 | refine below_set ?_ GE250001.out | refine below_set ?_ GE250002.out | refine below_set ?_ GE250003.out) | exact HB.out)) hb); have n4_ := Aside0.mk (hbox); have n5_ := Aside0.mk ((by rw [hg]; exact (below_size (by repeat (first | (with_reducible first | exact HB.out | apply below_alloc | apply pw_below_drewN | apply below_drew1 | refine below_set ?_ GE250001.out | refine below_set ?_ GE250002.out | refine below_set ?_ GE250003.out) | exact HB.out))) : w.heap.size ≤ gb250004)); have n6_ := Aside0.mk ((by rw [hg]; exact (below_size (by repeat (first | (with_reducible first | exact HB.out | apply below_alloc | apply pw_below_drewN | apply below_drew1 | refine below_set ?_ GE250001.out | refine below_set ?_ GE250002.out | refine below_set ?_ GE250003.out) | exact HB.out))) : w.heap.size ≤ gb250004)); have n7_ := Aside0.mk ((by rw [hg]; exact Nat.ne_of_lt (blk_lt (g := gb250001) (o := .cells #[.string a0_0, .int .i64 a0_1] 23 (0, 0)) (by (with_reducible repeat (first | refine blk_drewN ?_ _ | refine blk_drew ?_ | refine blk_alloc ?_ _)); exact BK250001.out)) : gb250001 ≠ gb250004)); have n8_ := Aside0.mk ((by rw [hg]; exact Nat.ne_of_gt (blk_lt (g := gb250001) (o := .cells #[.string a0_0, .int .i64 a0_1] 23 (0, 0)) (by (with_reducible repeat (first | refine blk_drewN ?_ _ | refine blk_drew ?_ | refine blk_alloc ?_ _)); exact BK250001.out)) : gb250004 ≠ gb250001)); have n9_ := Aside0.mk ((by rw [hg]; exact Nat.ne_of_lt (blk_lt (g := gb250002) (o := .cells #[.slice none 0 0] 24 (0, 0)) (by (with_reducible repeat (first | refine blk_drewN ?_ _ | refine blk_drew ?_ | refine blk_alloc ?_ _)); exact BK250002.out)) : gb250002 ≠ gb250004)); have n10_ := Aside0.mk ((by rw [hg]; exact Nat.ne_of_gt (blk_lt (g := gb250002) (o := .cells #[.slice none 0 0] 24 (0, 0)) (by (with_reducible repeat (first | refine blk_drewN ?_ _ | refine blk_drew ?_ | refine blk_alloc ?_ _)); exact BK250002.out)) : gb250004 ≠ gb250002)); have n11_ := Aside0.mk ((by rw [hg]; exact Nat.ne_of_lt (blk_lt (g := gb250003) (o := .cells #[.string (⟨#[]⟩ : ByteArray), .int .i64 0] 23 (0, 0)) (by (with_reducible repeat (first | refine blk_drewN ?_ _ | refine blk_drew ?_ | refine blk_alloc ?_ _)); exact BK250003.out)) : gb250003 ≠ gb250004)); have n12_ := Aside0.mk ((by rw [hg]; exact Nat.ne_of_gt (blk_lt (g := gb250003) (o := .cells #[.string (⟨#[]⟩ : ByteArray), .int .i64 0] 23 (0, 0)) (by (with_reducible repeat (first | refine blk_drewN ?_ _ | refine blk_drew ?_ | refine blk_alloc ?_ _)); exact BK250003.out)) : gb250004 ≠ gb250003)); clear BK250001; clear BK250002; clear BK250003; clear HB; have BK250001 := n0_; have BK250002 := n1_; have BK250003 := n2_; have HB := n3_; have BK250004 := n4_; have GW250004 := n5_; have GE250004 := n6_; have NB250001_250004 := n7_; have NB250004_250001 := n8_; have NB250002_250004 := n9_; have NB250004_250002 := n10_; have NB250003_250004 := n11_; have NB250004_250003 := n12_; clear n0_ n1_ n2_ n3_ n4_ n5_ n6_ n7_ n8_ n9_ n10_ n11_ n12_; clear hb hbox hg; have hnb43 := NB250001_250002.out; have hnc43 := NB250002_250001.out; have hnb44 := NB250001_250003.out; have hnc44 := NB250003_250001.out; have hnb45 := NB250001_250004.out; have hnc45 := NB250004_250001.out; have hcz46_0 : w42.cell? ⟨gb250001, 0, none⟩ = some (.string a0_0) := (blk_cell BK250001.out 0).trans rfl; have hcz46_1 : w42.cell? ⟨gb250001, 1, none⟩ = some (.int .i64 a0_1) := (blk_cell BK250001.out 1).trans rfl; have hfz46_0 := blk_frozen BK250001.out 0; have hfz46_1 := blk_frozen BK250001.out 1) | ((with_reducible refine gate_callee (f := 16) rfl ?_); refine goesL_ (some 15) rfl rfl Try.func16 (by kernel_rfl) rfl #[.agg #[.string a0_0, .int .i64 a0_1]] rfl (by (try simp only [List.map_toArray, List.map_cons, List.map_nil]); first | done | rfl | (simp only [List.length_drop, List.length_take]; rfl)) ?_; (with_reducible refine (tape_Right.calls a0_0 a0_1 false _ A3.out).mono ?_); rintro e w47 ⟨rfl, hb⟩; refine ⟨_, rfl, ?_⟩; have n0_ := Aside0.mk (blk_below (g := gb250001) (o := .cells #[.string a0_0, .int .i64 a0_1] 23 (0, 0)) (by (with_reducible repeat (first | refine blk_drewN ?_ _ | refine blk_drew ?_ | refine blk_alloc ?_ _)); exact BK250001.out) hb); have n1_ := Aside0.mk (blk_below (g := gb250002) (o := .cells #[.slice none 0 0] 24 (0, 0)) (by (with_reducible repeat (first | refine blk_drewN ?_ _ | refine blk_drew ?_ | refine blk_alloc ?_ _)); exact BK250002.out) hb); have n2_ := Aside0.mk (blk_below (g := gb250003) (o := .cells #[.string (⟨#[]⟩ : ByteArray), .int .i64 0] 23 (0, 0)) (by (with_reducible repeat (first | refine blk_drewN ?_ _ | refine blk_drew ?_ | refine blk_alloc ?_ _)); exact BK250003.out) hb); have n3_ := Aside0.mk (blk_below (g := gb250004) (o := .cells #[.int .i64 0] 31 (0, 0)) (by (with_reducible repeat (first | refine blk_drewN ?_ _ | refine blk_drew ?_ | refine blk_alloc ?_ _)); exact BK250004.out) hb); have n4_ := Aside0.mk (below_step (by repeat (first | (with_reducible first | exact HB.out | apply below_alloc | apply pw_below_drewN | apply below_drew1 | refine below_set ?_ GE250001.out | refine below_set ?_ GE250002.out | refine below_set ?_ GE250003.out | refine below_set ?_ GE250004.out) | exact HB.out)) hb); clear BK250001; clear BK250002; clear BK250003; clear BK250004; clear HB; have BK250001 := n0_; have BK250002 := n1_; have BK250003 := n2_; have BK250004 := n3_; have HB := n4_; clear n0_ n1_ n2_ n3_ n4_; (try clear hb); (try clear hb2); (try clear hk); (try clear hi)))
  have n0_ := Aside0.mk (blk_drew BK250001.out)
  have n1_ := Aside0.mk (blk_drew BK250002.out)
  have n2_ := Aside0.mk (blk_drew BK250003.out)
  have n3_ := Aside0.mk (blk_drew BK250004.out)
  have n4_ := Aside0.mk (below_drew1 HB.out)
  clear BK250001
  clear BK250002
  clear BK250003
  clear BK250004
  clear HB
  have BK250001 := n0_
  have BK250002 := n1_
  have BK250003 := n2_
  have BK250004 := n3_
  have HB := n4_
  clear n0_ n1_ n2_ n3_ n4_
  refine start_ (n := 4) (S := fun w' => w'.cell? ⟨gb250001, 0, none⟩ = some (.string a0_0) ∧ w'.cell? ⟨gb250001, 1, none⟩ = some (.int .i64 a0_1)) (ds := []) #[false, false, false, false] (by kernel_rfl) rfl rfl ⟨(blk_cell BK250001.out 0).trans rfl, (blk_cell BK250001.out 1).trans rfl⟩ (fun hHeld => ?_)
  generalize w47.drew = w48 at BK250001 BK250002 BK250003 BK250004 HB hHeld ⊢
  refine take_ (i := 0) (N := some 17) (v := ?_) (a' := ?_) #[true, false, false, false] rfl rfl (by kernel_rfl) (fun _ _ _ h => h) (Or.inl ⟨by rfl, ?_⟩) hHeld ?_ ?_
  rotate_left
  ·rintro w' ⟨s0, s1⟩
   go_simp
   with_reducible rfl
  rotate_left
  ·simp only [Act.put, List.setIfInBounds_toArray, List.set_cons_zero, List.set_cons_succ, i64_w, i32_w]
   rfl
  refine one_ (i := 1) (N := none) #[true, true, false, false] rfl rfl (by kernel_rfl) (by decide) (fun K hK => ?_)
  have hs49 : w48.cell? ⟨gb250002, 0, none⟩ = some (.slice none 0 0) := (blk_cell BK250002.out 0).trans rfl
  have hfs49 := blk_frozen BK250002.out 0
  have hns49_0 := NB250001_250002.out
  have hns49_2 := NB250003_250002.out
  have hns49_3 := NB250004_250002.out
  have hms49_0 := NB250002_250001.out
  have hms49_2 := NB250002_250003.out
  have hms49_3 := NB250002_250004.out
  refine skip_ (w1 := ?_) (by rfl) rfl ?_ ?_
  rotate_left
  ·go_simp
   rfl
  refine hK.out _ _ ⟨((cell_far (p := ⟨gb250002, _, none⟩) NB250001_250002.out _).trans (hHeld.1)), ((cell_far (p := ⟨gb250002, _, none⟩) NB250001_250002.out _).trans (hHeld.2))⟩ (fun hHeld => ?_)
  clear hK K
  refine one_ (i := 2) (N := none) #[true, true, true, false] rfl rfl (by kernel_rfl) (by decide) (fun K hK => ?_)
  have hs50 : w48.cell? ⟨gb250003, 0, none⟩ = some (.string (⟨#[]⟩ : ByteArray)) := (blk_cell BK250003.out 0).trans rfl
  have hfs50 := blk_frozen BK250003.out 0
  have hns50_0 := NB250001_250003.out
  have hns50_1 := NB250002_250003.out
  have hns50_3 := NB250004_250003.out
  have hms50_0 := NB250003_250001.out
  have hms50_1 := NB250003_250002.out
  have hms50_3 := NB250003_250004.out
  have hs51 : w48.cell? ⟨gb250003, 1, none⟩ = some (.int .i64 0) := (blk_cell BK250003.out 1).trans rfl
  have hfs51 := blk_frozen BK250003.out 1
  have hns51_0 := NB250001_250003.out
  have hns51_1 := NB250002_250003.out
  have hns51_3 := NB250004_250003.out
  have hms51_0 := NB250003_250001.out
  have hms51_1 := NB250003_250002.out
  have hms51_3 := NB250003_250004.out
  refine skip_ (w1 := ?_) (by rfl) rfl ?_ ?_
  rotate_left
  ·go_simp
   rfl
  refine hK.out _ _ ⟨((cell_far (p := ⟨gb250003, _, none⟩) NB250001_250003.out _).trans (((cell_far (p := ⟨gb250003, _, none⟩) NB250001_250003.out _).trans (hHeld.1)))), ((cell_far (p := ⟨gb250003, _, none⟩) NB250001_250003.out _).trans (((cell_far (p := ⟨gb250003, _, none⟩) NB250001_250003.out _).trans (hHeld.2))))⟩ (fun hHeld => ?_)
  clear hK K
  refine one_ (i := 3) (N := none) #[true, true, true, true] rfl rfl (by kernel_rfl) (by decide) (fun K hK => ?_)
  have hs52 : w48.cell? ⟨gb250004, 0, none⟩ = some (.int .i64 0) := (blk_cell BK250004.out 0).trans rfl
  have hfs52 := blk_frozen BK250004.out 0
  have hns52_0 := NB250001_250004.out
  have hns52_1 := NB250002_250004.out
  have hns52_2 := NB250003_250004.out
  have hms52_0 := NB250004_250001.out
  have hms52_1 := NB250004_250002.out
  have hms52_2 := NB250004_250003.out
  refine skip_ (w1 := ?_) (by rfl) rfl ?_ ?_
  rotate_left
  ·go_simp
   rfl
  refine hK.out _ _ ⟨((cell_far (p := ⟨gb250004, _, none⟩) NB250001_250004.out _).trans (hHeld.1)), ((cell_far (p := ⟨gb250004, _, none⟩) NB250001_250004.out _).trans (hHeld.2))⟩ (fun hHeld => ?_)
  clear hK K
  refine done_ (by kernel_rfl) ?_
  try go_wp2
  refine XB.QM_of (by first | exact Or.inl rfl | exact Or.inr rfl) ?_
  refine bodyPost_ret (XB.resultsX_list (rs := [.cell 4 24, .cell 5 23, .cell 6 31]) rfl (by simp) (.one gb250002 24 (.slice none 0 0) (0, 0) _ rfl (by (with_reducible repeat (first | refine blk_drewN ?_ _ | refine blk_drew ?_ | refine blk_alloc ?_ _)); refine blk_far ?_ NB250002_250004.out _; (with_reducible repeat (first | refine blk_drewN ?_ _ | refine blk_drew ?_ | refine blk_alloc ?_ _)); refine blk_far ?_ NB250002_250003.out _; (with_reducible repeat (first | refine blk_drewN ?_ _ | refine blk_drew ?_ | refine blk_alloc ?_ _)); refine blk_far ?_ NB250002_250003.out _; (with_reducible repeat (first | refine blk_drewN ?_ _ | refine blk_drew ?_ | refine blk_alloc ?_ _)); refine blk_put (cs := #[.slice none 0 0]) ?_ 0 _ rfl; (with_reducible repeat (first | refine blk_drewN ?_ _ | refine blk_drew ?_ | refine blk_alloc ?_ _)); exact BK250002.out) Try.underlying24 rfl (.cell gb250003 23 #[.string a0_0, .int .i64 a0_1] (0, 0) _ rfl (by (with_reducible repeat (first | refine blk_drewN ?_ _ | refine blk_drew ?_ | refine blk_alloc ?_ _)); refine blk_far ?_ NB250003_250004.out _; (with_reducible repeat (first | refine blk_drewN ?_ _ | refine blk_drew ?_ | refine blk_alloc ?_ _)); refine blk_put (cs := #[.string a0_0, .int .i64 0]) ?_ 1 _ rfl; (with_reducible repeat (first | refine blk_drewN ?_ _ | refine blk_drew ?_ | refine blk_alloc ?_ _)); refine blk_put (cs := #[.string (⟨#[]⟩ : ByteArray), .int .i64 0]) ?_ 0 _ rfl; (with_reducible repeat (first | refine blk_drewN ?_ _ | refine blk_drew ?_ | refine blk_alloc ?_ _)); refine blk_far ?_ NB250003_250002.out _; (with_reducible repeat (first | refine blk_drewN ?_ _ | refine blk_drew ?_ | refine blk_alloc ?_ _)); exact BK250003.out) Try.underlying23 rfl (by kernel_rfl) (.one gb250004 31 (.int .i64 1) (0, 0) _ rfl (by (with_reducible repeat (first | refine blk_drewN ?_ _ | refine blk_drew ?_ | refine blk_alloc ?_ _)); refine blk_put (cs := #[.int .i64 0]) ?_ 0 _ rfl; (with_reducible repeat (first | refine blk_drewN ?_ _ | refine blk_drew ?_ | refine blk_alloc ?_ _)); refine blk_far ?_ NB250004_250003.out _; (with_reducible repeat (first | refine blk_drewN ?_ _ | refine blk_drew ?_ | refine blk_alloc ?_ _)); refine blk_far ?_ NB250004_250003.out _; (with_reducible repeat (first | refine blk_drewN ?_ _ | refine blk_drew ?_ | refine blk_alloc ?_ _)); refine blk_far ?_ NB250004_250002.out _; (with_reducible repeat (first | refine blk_drewN ?_ _ | refine blk_drew ?_ | refine blk_alloc ?_ _)); exact BK250004.out) Try.underlying31 rfl .nil)))) rfl ?_
  exact ⟨_, by first | rfl | (simp [errW_none, errW_some] <;> rfl) | (simp [*, errW_none, errW_some] <;> rfl), by first | exact Kd.R_nil _ _ _ _ _ | exact Kd.N_nil _ _ _ _ _ | exact Kd.V_nil _ _ _ _ _ | exact Kd.Q_nil _ _ _ _ _ | exact Kd.S_nil _ _ _ _ _, by repeat (first | (with_reducible first | exact HB.out | apply below_alloc | apply pw_below_drewN | apply below_drew1 | refine below_set ?_ GE250001.out | refine below_set ?_ GE250002.out | refine below_set ?_ GE250003.out | refine below_set ?_ GE250004.out) | exact HB.out)⟩

end Go.Proofs.Ytmkncddbecmlpaa.Pr
