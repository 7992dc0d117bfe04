/-
  A part of what the row IdealTells reaches, laid together by a program of this session (wip/tools/shake.py) out of this seat's texts. No condition but the ones that each lemma names.
-/
import Derived.Laws.BitsLemmas
import Derived.OpenShut
import Derived.Test.YtmkncddbecmlpaaZIdealTells1
import Derived.Test.YtmkncddbecmlpaaZIdealTells2
import Derived.Test.YtmkncddbecmlpaaZIdealTells3
import Derived.Test.YtmkncddbecmlpaaZIdealTells4
set_option linter.unusedVariables false
set_option linter.unusedSimpArgs false
section
namespace Go.Proofs.Ytmkncddbecmlpaa.Pr
open Go.Proofs.Ytmkncddbecmlpaa.Sq Go.RowKit Go.Proofs.YtmkncddbecmlpaaW.PrintWords Go.Proofs.YtmkncddbecmlpaaW.PrintLast Go.Proofs.YtmkncddbecmlpaaW.PrintMore
attribute [local go_sem] max2_int min2_int max_two min_two max_three min_three max_four min_four
set_option linter.unusedVariables false
set_option linter.unusedSimpArgs false
def r7_Right.f (a0_0 : ByteArray) (a0_1 : Int) : Option (Bool) := if (a0_0.size : Int) ≤ 65536 then (if a0_1 ≥ 0 then (some (decide (a0_1 ≤ (a0_0.size : Int)))) else (some false)) else (some false)
set_option maxHeartbeats 8000000 in
set_option maxRecDepth 100000 in
theorem r7_Right.calls (a0_0 : ByteArray) (a0_1 : Int) (r : Bool) (w : World) (h : r7_Right.f a0_0 a0_1 = some r) :
  Calls Try.prog 17 #[.agg #[.string a0_0, .int .i64 a0_1]] w fun e w' => e = .returned (.bool r) ∧ Below w.heap.size w w' := by
 have hu23 := Try.underlying23
 have HB := am (Below.refl w.heap.size w)
 have H : (if (a0_0.size : Int) ≤ 65536 then (if a0_1 ≥ 0 then (some (decide (a0_1 ≤ (a0_0.size : Int)))) else (some false)) else (some false)) = some r := h
 clear h
 by_cases c2 : (a0_0.size : Int) ≤ 65536
 rotate_left
 ·rw [if_neg c2] at H
  have c2b0 : decide ((a0_0.size : Int) ≤ 65536) = false := decide_eq_false c2
  have c2b1 : decide (a0_0.size ≤ 65536) = false := decide_eq_false (by omega)
  clear c2
  obtain rfl := Option.some.inj H
  go_enter Try.func17, Try.ntmps17
  go_wp2_with (first | ((with_reducible refine gate_dst (N := 1) rfl ?_); (try (refine gate_guard (by rfl) ?_; dsimp only)); refine box_event ?hg (N := 1) ?hd (cs := #[.string a0_0, .int .i64 a0_1]) (t := 23) ?hr ?_; (case hd => rfl); (case hg => rfl); (case hr => first | (go_simp; done) | (go_simp; rfl)); intro gbz1 hg w8 hbox hb; have n0_ := am (below_step (pb HB) hb); have n1_ := am (hbox); have n2_ := ge_ hg (pb HB); have n3_ := ge_ hg (pb HB); clear HB; have HB := n0_; have BKz1 := n1_; have GWz1 := n2_; have GEz1 := n3_; clear n0_ n1_ n2_ n3_; clear hb hbox hg; obtain ⟨hcz9_0, hcz9_1⟩ := bc2 BKz1; obtain ⟨hfz9_0, hfz9_1⟩ := bf2 BKz1))
  go_ret
  exact ⟨by first | rfl | (simp <;> rfl) | (simp [*] <;> rfl), sC_ HB⟩
 rw [if_pos c2] at H
 have c2b0 : decide ((a0_0.size : Int) ≤ 65536) = true := decide_eq_true c2
 have c2b1 : decide (a0_0.size ≤ 65536) = true := decide_eq_true (by omega)
 clear c2
 by_cases c3 : a0_1 ≥ 0
 ·rw [if_pos c3] at H
  have c3b0 : decide (0 ≤ a0_1) = true := decide_eq_true c3
  clear c3
  obtain rfl := Option.some.inj H
  go_enter Try.func17, Try.ntmps17
  go_wp2_with (first | ((with_reducible refine gate_dst (N := 1) rfl ?_); (try (refine gate_guard (by rfl) ?_; dsimp only)); refine box_event ?hg (N := 1) ?hd (cs := #[.string a0_0, .int .i64 a0_1]) (t := 23) ?hr ?_; (case hd => rfl); (case hg => rfl); (case hr => first | (go_simp; done) | (go_simp; rfl)); intro gbz1 hg w4 hbox hb; have n0_ := am (below_step (pb HB) hb); have n1_ := am (hbox); have n2_ := ge_ hg (pb HB); have n3_ := ge_ hg (pb HB); clear HB; have HB := n0_; have BKz1 := n1_; have GWz1 := n2_; have GEz1 := n3_; clear n0_ n1_ n2_ n3_; clear hb hbox hg; obtain ⟨hcz5_0, hcz5_1⟩ := bc2 BKz1; obtain ⟨hfz5_0, hfz5_1⟩ := bf2 BKz1))
  go_ret
  exact ⟨by first | rfl | (simp <;> rfl) | (simp [*] <;> rfl), sC_ HB⟩
 rw [if_neg c3] at H
 have c3b0 : decide (0 ≤ a0_1) = false := decide_eq_false c3
 clear c3
 obtain rfl := Option.some.inj H
 go_enter Try.func17, Try.ntmps17
 go_wp2_with (first | ((with_reducible refine gate_dst (N := 1) rfl ?_); (try (refine gate_guard (by rfl) ?_; dsimp only)); refine box_event ?hg (N := 1) ?hd (cs := #[.string a0_0, .int .i64 a0_1]) (t := 23) ?hr ?_; (case hd => rfl); (case hg => rfl); (case hr => first | (go_simp; done) | (go_simp; rfl)); intro gbz1 hg w6 hbox hb; have n0_ := am (below_step (pb HB) hb); have n1_ := am (hbox); have n2_ := ge_ hg (pb HB); have n3_ := ge_ hg (pb HB); clear HB; have HB := n0_; have BKz1 := n1_; have GWz1 := n2_; have GEz1 := n3_; clear n0_ n1_ n2_ n3_; clear hb hbox hg; obtain ⟨hcz7_0, hcz7_1⟩ := bc2 BKz1; obtain ⟨hfz7_0, hfz7_1⟩ := bf2 BKz1))
 go_ret
 exact ⟨by first | rfl | (simp <;> rfl) | (simp [*] <;> rfl), sC_ HB⟩
end Go.Proofs.Ytmkncddbecmlpaa.Pr
end
section
namespace Go.Proofs.Ytmkncddbecmlpaa.Pr
open Go.Proofs.Ytmkncddbecmlpaa.Sq Go.RowKit Go.Proofs.YtmkncddbecmlpaaW.PrintWords Go.Proofs.YtmkncddbecmlpaaW.PrintLast Go.Proofs.YtmkncddbecmlpaaW.PrintMore
attribute [local go_sem] max2_int min2_int max_two min_two max_three min_three max_four min_four
set_option linter.unusedVariables false
set_option linter.unusedSimpArgs false
def r7_Left.f (a0_0 : ByteArray) (a0_1 : Int) : Option (Int) := (r7_Right.f a0_0 a0_1).bind fun tz2 => (if tz2 = true then (some (wrap64 ((a0_0.size : Int) - a0_1))) else (some 0))
set_option maxHeartbeats 8000000 in
set_option maxRecDepth 100000 in
theorem r7_Left.calls (a0_0 : ByteArray) (a0_1 : Int) (r : Int) (w : World) (h : r7_Left.f a0_0 a0_1 = some r) :
  Calls Try.prog 19 #[.agg #[.string a0_0, .int .i64 a0_1]] w fun e w' => e = .returned (.int .i64 r) ∧ Below w.heap.size w w' := by
 have hu23 := Try.underlying23
 have HB := am (Below.refl w.heap.size w)
 have H : ((r7_Right.f a0_0 a0_1).bind fun tz2 => (if tz2 = true then (some (wrap64 ((a0_0.size : Int) - a0_1))) else (some 0))) = some r := h
 clear h
 replace H := ob_ H
 obtain ⟨tz2, A20, H⟩ := H
 replace H : (if tz2 = true then (some (wrap64 ((a0_0.size : Int) - a0_1))) else (some 0)) = some r := H
 have A2 := Aside0.mk A20
 clear A20
 by_cases c3 : tz2 = true
 rotate_left
 ·replace c3 := Bool.eq_false_iff.mpr c3
  subst c3
  have H1 : (some 0) = some r := by rw [if_neg (show ¬ (false = true) by decide)] at H; exact H
  clear H
  have H := H1
  clear H1
  obtain rfl := Option.some.inj H
  go_enter Try.func19, Try.ntmps19
  go_wp2_with (first | ((with_reducible refine gate_dst (N := 1) rfl ?_); refine box_event ?hg (N := 1) ?hd (cs := #[.string a0_0, .int .i64 a0_1]) (t := 23) ?hr ?_; (case hd => rfl); (case hg => rfl); (case hr => first | (go_simp; done) | (go_simp; rfl)); intro gbz1 hg w8 hbox hb; have n0_ := am (below_step (pb HB) hb); have n1_ := am (hbox); have n2_ := ge_ hg (pb HB); have n3_ := ge_ hg (pb HB); clear HB; have HB := n0_; have BKz1 := n1_; have GWz1 := n2_; have GEz1 := n3_; clear n0_ n1_ n2_ n3_; clear hb hbox hg; obtain ⟨hcz9_0, hcz9_1⟩ := bc2 BKz1; obtain ⟨hfz9_0, hfz9_1⟩ := bf2 BKz1) | ((with_reducible refine gate_callee (f := 17) rfl ?_); refine goesL_ (some 4) rfl rfl Try.func17 (by kernel_rfl) rfl #[.agg #[.string a0_0, .int .i64 a0_1]] rfl (by (try simp only [List.map_toArray, List.map_cons, List.map_nil]) <;> rfl) ?_; (with_reducible refine (r7_Right.calls a0_0 a0_1 false _ A2.out).mono ?_); rintro e w10 ⟨rfl, hb⟩; refine ⟨_, rfl, ?_⟩; have n0_ := am (bkB (pk BKz1) hb); have n1_ := am (below_step (sC_ HB) hb); clear BKz1; clear HB; have BKz1 := n0_; have HB := n1_; clear n0_ n1_; (try clear hi)))
  go_ret
  exact ⟨by first | rfl | (simp <;> rfl) | (simp [*] <;> rfl), sC_ HB⟩
 subst c3
 have H1 : (some (wrap64 ((a0_0.size : Int) - a0_1))) = some r := by rw [if_pos rfl] at H; exact H
 clear H
 have H := H1
 clear H1
 obtain rfl := Option.some.inj H
 go_enter Try.func19, Try.ntmps19
 go_wp2_with (first | ((with_reducible refine gate_dst (N := 1) rfl ?_); refine box_event ?hg (N := 1) ?hd (cs := #[.string a0_0, .int .i64 a0_1]) (t := 23) ?hr ?_; (case hd => rfl); (case hg => rfl); (case hr => first | (go_simp; done) | (go_simp; rfl)); intro gbz1 hg w4 hbox hb; have n0_ := am (below_step (pb HB) hb); have n1_ := am (hbox); have n2_ := ge_ hg (pb HB); have n3_ := ge_ hg (pb HB); clear HB; have HB := n0_; have BKz1 := n1_; have GWz1 := n2_; have GEz1 := n3_; clear n0_ n1_ n2_ n3_; clear hb hbox hg; obtain ⟨hcz5_0, hcz5_1⟩ := bc2 BKz1; obtain ⟨hfz5_0, hfz5_1⟩ := bf2 BKz1) | ((with_reducible refine gate_callee (f := 17) rfl ?_); refine goesL_ (some 4) rfl rfl Try.func17 (by kernel_rfl) rfl #[.agg #[.string a0_0, .int .i64 a0_1]] rfl (by (try simp only [List.map_toArray, List.map_cons, List.map_nil]) <;> rfl) ?_; (with_reducible refine (r7_Right.calls a0_0 a0_1 true _ A2.out).mono ?_); rintro e w6 ⟨rfl, hb⟩; refine ⟨_, rfl, ?_⟩; have n0_ := am (bkB (pk BKz1) hb); have n1_ := am (below_step (sC_ HB) hb); clear BKz1; clear HB; have BKz1 := n0_; have HB := n1_; clear n0_ n1_; obtain ⟨hcz7_0, hcz7_1⟩ := bc2 BKz1; obtain ⟨hfz7_0, hfz7_1⟩ := bf2 BKz1))
 go_ret
 exact ⟨by first | rfl | (simp <;> rfl) | (simp [*] <;> rfl), sC_ HB⟩
end Go.Proofs.Ytmkncddbecmlpaa.Pr
end
section
namespace Go.Proofs.Ytmkncddbecmlpaa.Pr
open Go.Proofs.Ytmkncddbecmlpaa.Sq Go.RowKit Go.Proofs.YtmkncddbecmlpaaW.PrintWords Go.Proofs.YtmkncddbecmlpaaW.PrintLast Go.Proofs.YtmkncddbecmlpaaW.PrintMore
attribute [local go_sem] max2_int min2_int max_two min_two max_three min_three max_four min_four
set_option linter.unusedVariables false
set_option linter.unusedSimpArgs false
def r7_Take.j0 : Nat → Int → Bool → ByteArray → Int → Option (ByteArray × ByteArray × Int × Int)
 | 0, _, _, _, _ => none
 | k + 1, x1, x13, xz2000, xz2001 => if x13 = true then (some ((⟨#[]⟩ : ByteArray), xz2000, xz2001, 1)) else ((r7_Left.f xz2000 xz2001).bind fun tz4 => (if x1 > tz4 then (some ((⟨#[]⟩ : ByteArray), xz2000, xz2001, 12)) else (if 0 ≤ xz2001 then (if xz2001 ≤ (wrap64 (xz2001 + x1)) then (if (wrap64 (xz2001 + x1)) ≤ (xz2000.size : Int) then (some (xz2000.extract (xz2001 : Int).toNat ((wrap64 (xz2001 + x1)) : Int).toNat, xz2000, wrap64 (xz2001 + x1), 0)) else (none)) else (none)) else (none))))
def r7_Take.f (k : Nat) (a0_0 : ByteArray) (a0_1 : Int) (a1 : Int) : Option (ByteArray × ByteArray × Int × Int) := (r7_Right.f a0_0 a0_1).bind fun tz3 => (if tz3 = true then (r7_Take.j0 k a1 (decide (a1 < 0)) a0_0 a0_1) else (r7_Take.j0 k a1 true a0_0 a0_1))
def r7_Take.T5 : Bool × List (List Nat × List Nat) := (true, [([], []), ([0], [0]), ([], []), ([2], [2]), ([], []), ([4], [4]), ([], []), ([5, 6], [5, 6]), ([1, 3, 7], [1, 3, 7]), ([], []), ([9], [9]), ([], []), ([11], [11]), ([], []), ([12, 13], [12, 13]), ([10, 14], [10, 14]), ([8, 0, 1, 2, 3, 4, 5, 6, 7, 8], [8]), ([15, 16, 0, 1, 2, 3, 4, 5, 6, 7, 8, 9, 10, 11, 12, 13, 14, 15, 16], [15]), ([17, 0, 1, 2, 3, 4, 5, 6, 7, 8, 9, 10, 11, 12, 13, 14, 15, 16, 17], [])])
def r7_Take.B5 : List Nat := [0, 1, 0, 4, 0, 16, 0, 112, 255, 0, 512, 0, 2048, 0, 14336, 32256, 511, 131071, 262143]
theorem r7_Take.tab5 : rtab .any (opsOf Try.f22 5) = r7_Take.T5 := by kernel_rfl
theorem r7_Take.bits5 : waitsOk r7_Take.T5.2 r7_Take.B5 = true := by kernel_rfl
set_option maxHeartbeats 8000000 in
set_option maxRecDepth 100000 in
theorem r7_Take.calls (k : Nat) (a0_0 : ByteArray) (a0_1 : Int) (a1 : Int) (r1 : ByteArray) (r2 : ByteArray) (r3 : Int) (r4 : Int) (w : World) (h : r7_Take.f k a0_0 a0_1 a1 = some (r1, r2, r3, r4)) :
  Calls Try.prog 22 #[.agg #[.string a0_0, .int .i64 a0_1], .int .i64 a1] w fun e w' => e = .returned (.tuple #[.string r1, .agg #[.string r2, .int .i64 r3], .int .i64 r4]) ∧ Below w.heap.size w w' := by
 have hu23 := Try.underlying23
 have HB := am (Below.refl w.heap.size w)
 have H : ((r7_Right.f a0_0 a0_1).bind fun tz3 => (if tz3 = true then (r7_Take.j0 k a1 (decide (a1 < 0)) a0_0 a0_1) else (r7_Take.j0 k a1 true a0_0 a0_1))) = some (r1, r2, r3, r4) := h
 clear h
 have HC3 := am H
 clear H
 go_enter Try.func22, Try.ntmps22
 go_upto_region 1 with (first | ((with_reducible refine gate_dst (N := 2) rfl ?_); refine box_event ?hg (N := 2) ?hd (cs := #[.string a0_0, .int .i64 a0_1]) (t := 23) ?hr ?_; (case hd => rfl); (case hg => rfl); (case hr => first | (go_simp; done) | (go_simp; rfl)); intro gbz1 hg w4 hbox hb; have n0_ := am (below_step (pb HB) hb); have n1_ := am (hbox); have n2_ := ge_ hg (pb HB); have n3_ := ge_ hg (pb HB); clear HB; have HB := n0_; have BKz1 := n1_; have GWz1 := n2_; have GEz1 := n3_; clear n0_ n1_ n2_ n3_; clear hb hbox hg) | ((with_reducible refine gate_dst (N := 5) rfl ?_); refine box_event ?hg (N := 5) ?hd (cs := #[.string (⟨#[]⟩ : ByteArray), .int .i64 0]) (t := 23) ?hr ?_; (case hd => rfl); (case hg => rfl); (case hr => first | (go_simp; done) | (go_simp; rfl)); intro gbz2 hg w5 hbox hb; have n0_ := am (bkB (pk BKz1) hb); have n1_ := am (below_step (sC_ HB) hb); have n2_ := am (hbox); have n3_ := ge_ hg (sC_ HB); have n4_ := ge_ hg (sC_ HB); have n5_ := nl_ hg BKz1; have n6_ := ng_ hg BKz1; clear BKz1; clear HB; have BKz1 := n0_; have HB := n1_; have BKz2 := n2_; have GWz2 := n3_; have GEz2 := n4_; have NBz1_z2 := n5_; have NBz2_z1 := n6_; clear n0_ n1_ n2_ n3_ n4_ n5_ n6_; clear hb hbox hg))
 (try simp only [Act.put, List.setIfInBounds_toArray, List.set_cons_zero, List.set_cons_succ])
 go_cut [13] (fun v13 wc => ∃ (kq : Nat) (x13_2 : Bool), v13 = .bool x13_2 ∧ Aside0 (r7_Take.j0 kq a1 x13_2 a0_0 a0_1 = some (r1, r2, r3, r4)) ∧ Aside0 (kq ≤ k) ∧ Aside0 (wc.heap[gbz1]? = some (.cells #[.string a0_0, .int .i64 a0_1] 23 (0, 0))) ∧ Aside0 (wc.heap[gbz2]? = some (.cells #[.string (⟨#[]⟩ : ByteArray), .int .i64 0] 23 (0, 0))) ∧ Aside0 (Below w.heap.size w wc))
 case first =>
  have H := HC3.out
  clear HC3
  replace H := ob_ H
  obtain ⟨tz3, A60, H⟩ := H
  replace H : (if tz3 = true then (r7_Take.j0 k a1 (decide (a1 < 0)) a0_0 a0_1) else (r7_Take.j0 k a1 true a0_0 a0_1)) = some (r1, r2, r3, r4) := H
  have A6 := Aside0.mk A60
  clear A60
  by_cases c7 : tz3 = true
  ·subst c7
   have H1 : (r7_Take.j0 k a1 (decide (a1 < 0)) a0_0 a0_1) = some (r1, r2, r3, r4) := by rw [if_pos rfl] at H; exact H
   clear H
   have H := H1
   clear H1
   have H' := am H
   clear H
   have hnb8 := NBz1_z2.out
   have hnc8 := NBz2_z1.out
   obtain ⟨hcz9_0, hcz9_1⟩ := bc2 BKz1
   obtain ⟨hfz9_0, hfz9_1⟩ := bf2 BKz1
   go_wp2_with (first | ((with_reducible refine gate_callee (f := 17) rfl ?_); refine goesL_ (some 8) rfl rfl Try.func17 (by kernel_rfl) rfl #[.agg #[.string a0_0, .int .i64 a0_1]] rfl (by (try simp only [List.map_toArray, List.map_cons, List.map_nil]) <;> rfl) ?_; (with_reducible refine (r7_Right.calls a0_0 a0_1 true _ A6.out).mono ?_); rintro e w10 ⟨rfl, hb⟩; refine ⟨_, rfl, ?_⟩; have n0_ := am (bkB (pk BKz1) hb); have n1_ := am (bkB (g := gbz2) (o := .cells #[.string (⟨#[]⟩ : ByteArray), .int .i64 0] 23 (0, 0)) (pk BKz2) hb); have n2_ := am (below_step (sC_ HB) hb); clear BKz1; clear BKz2; clear HB; have BKz1 := n0_; have BKz2 := n1_; have HB := n2_; clear n0_ n1_ n2_; (try clear hi)))
   go_meet
   case rel => exact ⟨_, (decide (a1 < 0)), (by first | rfl | (simp; done) | (simp [*]; done)), H', ⟨by first | omega | exact Nat.le_refl _⟩, (sk_ BKz1), (sk_ BKz2), (sB_ HB)⟩
  replace c7 := Bool.eq_false_iff.mpr c7
  subst c7
  have H1 : (r7_Take.j0 k a1 true a0_0 a0_1) = some (r1, r2, r3, r4) := by rw [if_neg (show ¬ (false = true) by decide)] at H; exact H
  clear H
  have H := H1
  clear H1
  have H' := am H
  clear H
  have hnb11 := NBz1_z2.out
  have hnc11 := NBz2_z1.out
  obtain ⟨hcz12_0, hcz12_1⟩ := bc2 BKz1
  obtain ⟨hfz12_0, hfz12_1⟩ := bf2 BKz1
  go_wp2_with (first | ((with_reducible refine gate_callee (f := 17) rfl ?_); refine goesL_ (some 8) rfl rfl Try.func17 (by kernel_rfl) rfl #[.agg #[.string a0_0, .int .i64 a0_1]] rfl (by (try simp only [List.map_toArray, List.map_cons, List.map_nil]) <;> rfl) ?_; (with_reducible refine (r7_Right.calls a0_0 a0_1 false _ A6.out).mono ?_); rintro e w13 ⟨rfl, hb⟩; refine ⟨_, rfl, ?_⟩; have n0_ := am (bkB (pk BKz1) hb); have n1_ := am (bkB (g := gbz2) (o := .cells #[.string (⟨#[]⟩ : ByteArray), .int .i64 0] 23 (0, 0)) (pk BKz2) hb); have n2_ := am (below_step (sC_ HB) hb); clear BKz1; clear BKz2; clear HB; have BKz1 := n0_; have BKz2 := n1_; have HB := n2_; clear n0_ n1_ n2_; (try clear hi)))
  go_meet
  case rel => exact ⟨_, (true), (by first | rfl | (simp; done) | (simp [*]; done)), H', ⟨by first | omega | exact Nat.le_refl _⟩, (sk_ BKz1), (sk_ BKz2), (sB_ HB)⟩
 clear HC3
 try clear c1
 try clear c2
 try clear p2
 try clear c7
 try clear c8
 try clear c11
 try clear hcz12_0
 try clear hcz12_1
 try clear hcz9_0
 try clear hcz9_1
 try clear hfz12_0
 try clear hfz12_1
 try clear hfz9_0
 try clear hfz9_1
 obtain ⟨kq, x13_2, rfl, HA, HJ2, BKz1, BKz2, HB⟩ := hcut
 cases kq with
 | zero => exact absurd HA.out (by simp [r7_Take.j0])
 | succ kj2 => ?_
 have H := HA.out
 clear HA
 simp only [r7_Take.j0] at H
 by_cases c14 : x13_2 = true
 ·subst c14
  have H1 : (some ((⟨#[]⟩ : ByteArray), a0_0, a0_1, 1)) = some (r1, r2, r3, r4) := by rw [if_pos rfl] at H; exact H
  clear H
  have H := H1
  clear H1
  simp only [Option.some.injEq, Prod.mk.injEq] at H
  obtain ⟨rfl, rfl, rfl, rfl⟩ := H
  try go_wp2
  have n0_ := am (bkD BKz1.out)
  have n1_ := am (bkD BKz2.out)
  have n2_ := am (below_drew1 HB.out)
  clear BKz1 BKz2 HB; have BKz1 := n0_; have BKz2 := n1_; have HB := n2_; clear n0_ n1_ n2_
  refine start_ (n := 4) (S := fun w' => w'.cell? ⟨gbz1, 0, none⟩ = some (.string a0_0) ∧ w'.cell? ⟨gbz1, 1, none⟩ = some (.int .i64 a0_1)) (ds := []) #[false, false, false, false] (by kernel_rfl) rfl rfl (bc2 BKz1) (fun hHeld => ?_)
  generalize wc.drew = w15 at BKz1 BKz2 HB hHeld ⊢
  refine pn_ 1 (some 4) rfl rfl (.inl ⟨by rfl, by intro w'; go_simp; with_reducible rfl⟩) (by simp only [Act.put, sa_, s0_, s1_, i64_w, i32_w]; rfl) ?_
  refine tn_ 0 (some 14) rfl rfl (.inl ⟨by rfl, by rintro w' ⟨s0, s1⟩; go_simp; with_reducible rfl⟩) hHeld (by simp only [Act.put, sa_, s0_, s1_, i64_w, i32_w]; rfl) ?_
  refine one_ (i := 2) (N := none) #[true, true, true, false] rfl rfl (by kernel_rfl) (by decide) (fun K hK => ?_)
  have hs16 : w15.cell? ⟨gbz2, 0, none⟩ = some (.string (⟨#[]⟩ : ByteArray)) := (blk_cell BKz2.out 0).trans rfl
  have hfs16 := blk_frozen BKz2.out 0
  have := NBz1_z2.out
  have := NBz2_z1.out
  have hs17 : w15.cell? ⟨gbz2, 1, none⟩ = some (.int .i64 0) := (blk_cell BKz2.out 1).trans rfl
  have hfs17 := blk_frozen BKz2.out 1
  have := NBz1_z2.out
  have := NBz2_z1.out
  refine skip_ (by rfl) rfl (by go_simp; rfl) ?_
  refine hK.out _ _ ⟨((cell_far (p := ⟨gbz2, _, none⟩) NBz1_z2.out _).trans (((cell_far (p := ⟨gbz2, _, none⟩) NBz1_z2.out _).trans (hHeld.1)))), ((cell_far (p := ⟨gbz2, _, none⟩) NBz1_z2.out _).trans (((cell_far (p := ⟨gbz2, _, none⟩) NBz1_z2.out _).trans (hHeld.2))))⟩ (fun hHeld => ?_)
  clear hK K
  refine pn_ 3 (some 6) rfl rfl (.inl ⟨by rfl, by intro w'; go_simp; with_reducible rfl⟩) (by simp only [Act.put, sa_, s0_, s1_, i64_w, i32_w]; rfl) ?_
  refine done_ (by kernel_rfl) ?_
  try go_wp2
  refine bodyPost_ret (results_list (rs := [.tmp 4, .cell 5 23, .tmp 6]) rfl (by simp) (.tmp (.cell gbz2 23 #[.string a0_0, .int .i64 a0_1] (0, 0) _ rfl (by (with_reducible repeat (first | refine blk_drewN ?_ _ | refine bkD ?_ | refine bkA ?_ _)); apply bp2; exact pk BKz2) Try.underlying23 rfl (by kernel_rfl) (.tmp .nil)))) rfl ?_
  exact ⟨by first | rfl | (simp <;> rfl) | (simp [*] <;> rfl), sC_ HB⟩
 replace c14 := Bool.eq_false_iff.mpr c14
 subst c14
 have H1 : ((r7_Left.f a0_0 a0_1).bind fun tz4 => (if a1 > tz4 then (some ((⟨#[]⟩ : ByteArray), a0_0, a0_1, 12)) else (if 0 ≤ a0_1 then (if a0_1 ≤ (wrap64 (a0_1 + a1)) then (if (wrap64 (a0_1 + a1)) ≤ (a0_0.size : Int) then (some (a0_0.extract (a0_1 : Int).toNat ((wrap64 (a0_1 + a1)) : Int).toNat, a0_0, wrap64 (a0_1 + a1), 0)) else (none)) else (none)) else (none)))) = some (r1, r2, r3, r4) := by rw [if_neg (show ¬ (false = true) by decide)] at H; exact H
 clear H
 have H := H1
 clear H1
 replace H := ob_ H
 obtain ⟨tz4, A180, H⟩ := H
 replace H : (if a1 > tz4 then (some ((⟨#[]⟩ : ByteArray), a0_0, a0_1, 12)) else (if 0 ≤ a0_1 then (if a0_1 ≤ (wrap64 (a0_1 + a1)) then (if (wrap64 (a0_1 + a1)) ≤ (a0_0.size : Int) then (some (a0_0.extract (a0_1 : Int).toNat ((wrap64 (a0_1 + a1)) : Int).toNat, a0_0, wrap64 (a0_1 + a1), 0)) else (none)) else (none)) else (none))) = some (r1, r2, r3, r4) := H
 have A18 := Aside0.mk A180
 clear A180
 by_cases c19 : a1 > tz4
 ·rw [if_pos c19] at H
  have c19b0 : decide (tz4 < a1) = true := decide_eq_true c19
  clear c19
  simp only [Option.some.injEq, Prod.mk.injEq] at H
  obtain ⟨rfl, rfl, rfl, rfl⟩ := H
  have hnb20 := NBz1_z2.out
  have hnc20 := NBz2_z1.out
  obtain ⟨hcz21_0, hcz21_1⟩ := bc2 BKz1
  obtain ⟨hfz21_0, hfz21_1⟩ := bf2 BKz1
  try go_wp2_with (first | ((with_reducible refine gate_callee (f := 19) rfl ?_); refine goesL_ (some 17) rfl rfl Try.func19 (by kernel_rfl) rfl #[.agg #[.string a0_0, .int .i64 a0_1]] rfl (by (try simp only [List.map_toArray, List.map_cons, List.map_nil]) <;> rfl) ?_; (with_reducible refine (r7_Left.calls a0_0 a0_1 tz4 _ A18.out).mono ?_); rintro e w22 ⟨rfl, hb⟩; refine ⟨_, rfl, ?_⟩; have n0_ := am (bkB (pk BKz1) hb); have n1_ := am (bkB (g := gbz2) (o := .cells #[.string (⟨#[]⟩ : ByteArray), .int .i64 0] 23 (0, 0)) (pk BKz2) hb); have n2_ := am (below_step (sC_ HB) hb); clear BKz1; clear BKz2; clear HB; have BKz1 := n0_; have BKz2 := n1_; have HB := n2_; clear n0_ n1_ n2_; (try clear hi)))
  have n0_ := am (bkD BKz1.out)
  have n1_ := am (bkD BKz2.out)
  have n2_ := am (below_drew1 HB.out)
  clear BKz1 BKz2 HB; have BKz1 := n0_; have BKz2 := n1_; have HB := n2_; clear n0_ n1_ n2_
  refine start_ (n := 4) (S := fun w' => w'.cell? ⟨gbz1, 0, none⟩ = some (.string a0_0) ∧ w'.cell? ⟨gbz1, 1, none⟩ = some (.int .i64 a0_1)) (ds := []) #[false, false, false, false] (by kernel_rfl) rfl rfl (bc2 BKz1) (fun hHeld => ?_)
  generalize w22.drew = w23 at BKz1 BKz2 HB hHeld ⊢
  refine pn_ 1 (some 4) rfl rfl (.inl ⟨by rfl, by intro w'; go_simp; with_reducible rfl⟩) (by simp only [Act.put, sa_, s0_, s1_, i64_w, i32_w]; rfl) ?_
  refine tn_ 0 (some 19) rfl rfl (.inl ⟨by rfl, by rintro w' ⟨s0, s1⟩; go_simp; with_reducible rfl⟩) hHeld (by simp only [Act.put, sa_, s0_, s1_, i64_w, i32_w]; rfl) ?_
  refine one_ (i := 2) (N := none) #[true, true, true, false] rfl rfl (by kernel_rfl) (by decide) (fun K hK => ?_)
  have hs24 : w23.cell? ⟨gbz2, 0, none⟩ = some (.string (⟨#[]⟩ : ByteArray)) := (blk_cell BKz2.out 0).trans rfl
  have hfs24 := blk_frozen BKz2.out 0
  have := NBz1_z2.out
  have := NBz2_z1.out
  have hs25 : w23.cell? ⟨gbz2, 1, none⟩ = some (.int .i64 0) := (blk_cell BKz2.out 1).trans rfl
  have hfs25 := blk_frozen BKz2.out 1
  have := NBz1_z2.out
  have := NBz2_z1.out
  refine skip_ (by rfl) rfl (by go_simp; rfl) ?_
  refine hK.out _ _ ⟨((cell_far (p := ⟨gbz2, _, none⟩) NBz1_z2.out _).trans (((cell_far (p := ⟨gbz2, _, none⟩) NBz1_z2.out _).trans (hHeld.1)))), ((cell_far (p := ⟨gbz2, _, none⟩) NBz1_z2.out _).trans (((cell_far (p := ⟨gbz2, _, none⟩) NBz1_z2.out _).trans (hHeld.2))))⟩ (fun hHeld => ?_)
  clear hK K
  refine pn_ 3 (some 6) rfl rfl (.inl ⟨by rfl, by intro w'; go_simp; with_reducible rfl⟩) (by simp only [Act.put, sa_, s0_, s1_, i64_w, i32_w]; rfl) ?_
  refine done_ (by kernel_rfl) ?_
  try go_wp2
  refine bodyPost_ret (results_list (rs := [.tmp 4, .cell 5 23, .tmp 6]) rfl (by simp) (.tmp (.cell gbz2 23 #[.string a0_0, .int .i64 a0_1] (0, 0) _ rfl (by (with_reducible repeat (first | refine blk_drewN ?_ _ | refine bkD ?_ | refine bkA ?_ _)); apply bp2; exact pk BKz2) Try.underlying23 rfl (by kernel_rfl) (.tmp .nil)))) rfl ?_
  exact ⟨by first | rfl | (simp <;> rfl) | (simp [*] <;> rfl), sC_ HB⟩
 rw [if_neg c19] at H
 have c19b0 : decide (tz4 < a1) = false := decide_eq_false c19
 clear c19
 by_cases c26 : 0 ≤ a0_1
 rotate_left
 ·rw [if_neg c26] at H
  exact absurd H (by simp)
 rw [if_pos c26] at H
 have c26b0 := eq_true c26
 have c26b1 : decide (0 ≤ a0_1) = true := decide_eq_true c26
 clear c26
 by_cases c27 : a0_1 ≤ (wrap64 (a0_1 + a1))
 rotate_left
 ·rw [if_neg c27] at H
  exact absurd H (by simp)
 rw [if_pos c27] at H
 have c27b0 := eq_true c27
 have c27b1 : decide (a0_1 ≤ (wrap64 (a0_1 + a1))) = true := decide_eq_true c27
 by_cases c28 : (wrap64 (a0_1 + a1)) ≤ (a0_0.size : Int)
 rotate_left
 ·rw [if_neg c28] at H
  exact absurd H (by simp)
 rw [if_pos c28] at H
 have c28b0 := eq_true c28
 have c28b1 : decide ((wrap64 (a0_1 + a1)) ≤ (a0_0.size : Int)) = true := decide_eq_true c28
 obtain ⟨sx29, hsx29⟩ : ∃ s_ : ByteArray, (a0_0.extract (a0_1 : Int).toNat ((wrap64 (a0_1 + a1)) : Int).toNat) = s_ := ⟨_, rfl⟩
 replace H : (some (sx29, a0_0, wrap64 (a0_1 + a1), 0)) = some (r1, r2, r3, r4) := by first | (rw [hsx29] at H; exact H) | (simp only [hsx29] at H ⊢; exact H) | exact H
 simp only [Option.some.injEq, Prod.mk.injEq] at H
 obtain ⟨rfl, rfl, rfl, rfl⟩ := H
 have hnb30 := NBz1_z2.out
 have hnc30 := NBz2_z1.out
 obtain ⟨hcz31_0, hcz31_1⟩ := bc2 BKz1
 obtain ⟨hfz31_0, hfz31_1⟩ := bf2 BKz1
 try go_wp2_with (first | ((with_reducible refine gate_callee (f := 19) rfl ?_); refine goesL_ (some 17) rfl rfl Try.func19 (by kernel_rfl) rfl #[.agg #[.string a0_0, .int .i64 a0_1]] rfl (by (try simp only [List.map_toArray, List.map_cons, List.map_nil]) <;> rfl) ?_; (with_reducible refine (r7_Left.calls a0_0 a0_1 tz4 _ A18.out).mono ?_); rintro e w32 ⟨rfl, hb⟩; refine ⟨_, rfl, ?_⟩; have n0_ := am (bkB (pk BKz1) hb); have n1_ := am (bkB (g := gbz2) (o := .cells #[.string (⟨#[]⟩ : ByteArray), .int .i64 0] 23 (0, 0)) (pk BKz2) hb); have n2_ := am (below_step (sC_ HB) hb); clear BKz1; clear BKz2; clear HB; have BKz1 := n0_; have BKz2 := n1_; have HB := n2_; clear n0_ n1_ n2_; (try clear hi)))
 have n0_ := am (bkD BKz1.out)
 have n1_ := am (bkD BKz2.out)
 have n2_ := am (below_drew1 HB.out)
 clear BKz1 BKz2 HB; have BKz1 := n0_; have BKz2 := n1_; have HB := n2_; clear n0_ n1_ n2_
 refine start_ (n := 19) (S := fun w' => w'.cell? ⟨gbz1, 0, none⟩ = some (.string a0_0) ∧ w'.cell? ⟨gbz1, 1, none⟩ = some (.int .i64 a0_1)) (ds := []) #[false, false, false, false, false, false, false, false, false, false, false, false, false, false, false, false, false, false, false] (by kernel_rfl) rfl rfl (bc2 BKz1) (fun hHeld => ?_); refine with_tabW r7_Take.tab5 r7_Take.bits5 (fun HT_ HW_ => ?_)
 generalize w32.drew = w33 at BKz1 BKz2 HB hHeld ⊢
 refine pv_ 0 (some 20) HT_ ?_
 refine pv_ 2 (some 22) HT_ ?_
 refine pv_ 4 (some 24) HT_ ?_
 refine pv_ 6 (some 26) HT_ ?_
 refine pv_ 9 (some 29) HT_ ?_
 refine pv_ 11 (some 31) HT_ ?_
 refine pv_ 13 (some 33) HT_ ?_
 refine tk_ 1 (some 21) HT_ HW_ rfl rfl (.inl ⟨by rfl, by rintro w' ⟨s0, s1⟩; go_simp; with_reducible rfl⟩) hHeld (by simp only [Act.put, sa_, s0_, s1_, i64_w, i32_w]; rfl) ?_
 refine tk_ 3 (some 23) HT_ HW_ rfl rfl (.inl ⟨by rfl, by rintro w' ⟨s0, s1⟩; go_simp; with_reducible rfl⟩) hHeld (by simp only [Act.put, sa_, s0_, s1_, i64_w, i32_w]; rfl) ?_
 refine tk_ 5 (some 25) HT_ HW_ rfl rfl (.inl ⟨by rfl, by rintro w' ⟨s0, s1⟩; go_simp; with_reducible rfl⟩) hHeld (by simp only [Act.put, sa_, s0_, s1_, i64_w, i32_w]; rfl) ?_
 refine pv_ 7 (some 27) HT_ ?_
 refine pv_ 8 (some 28) HT_ ?_
 refine pv_ 16 (some 4) HT_ ?_
 refine tk_ 10 (some 30) HT_ HW_ rfl rfl (.inl ⟨by rfl, by rintro w' ⟨s0, s1⟩; go_simp; with_reducible rfl⟩) hHeld (by simp only [Act.put, sa_, s0_, s1_, i64_w, i32_w]; rfl) ?_
 refine tk_ 12 (some 32) HT_ HW_ rfl rfl (.inl ⟨by rfl, by rintro w' ⟨s0, s1⟩; go_simp; with_reducible rfl⟩) hHeld (by simp only [Act.put, sa_, s0_, s1_, i64_w, i32_w]; rfl) ?_
 refine pv_ 14 (some 34) HT_ ?_
 refine pv_ 15 (some 35) HT_ ?_
 refine on_ 17 none HT_ rfl rfl (fun K hK => ?_)
 have hs34 : w33.cell? ⟨gbz2, 0, none⟩ = some (.string (⟨#[]⟩ : ByteArray)) := (blk_cell BKz2.out 0).trans rfl
 have hfs34 := blk_frozen BKz2.out 0
 have := NBz1_z2.out
 have := NBz2_z1.out
 have hs35 : w33.cell? ⟨gbz2, 1, none⟩ = some (.int .i64 0) := (blk_cell BKz2.out 1).trans rfl
 have hfs35 := blk_frozen BKz2.out 1
 have := NBz1_z2.out
 have := NBz2_z1.out
 refine skip_ (by rfl) rfl (by go_simp; rfl) ?_
 refine hK.out _ _ ⟨((cell_far (p := ⟨gbz2, _, none⟩) NBz1_z2.out _).trans (((cell_far (p := ⟨gbz2, _, none⟩) NBz1_z2.out _).trans (hHeld.1)))), ((cell_far (p := ⟨gbz2, _, none⟩) NBz1_z2.out _).trans (((cell_far (p := ⟨gbz2, _, none⟩) NBz1_z2.out _).trans (hHeld.2))))⟩ (fun hHeld => ?_)
 clear hK K
 refine pv_ 18 (some 6) HT_ ?_
 refine done_ (done_of HT_.out (by kernel_rfl)) ?_
 try go_wp2
 refine bodyPost_ret (results_list (rs := [.tmp 4, .cell 5 23, .tmp 6]) rfl (by simp) (.tmp (.cell gbz2 23 #[.string a0_0, .int .i64 (wrap64 (a0_1 + a1))] (0, 0) _ rfl (by (with_reducible repeat (first | refine blk_drewN ?_ _ | refine bkD ?_ | refine bkA ?_ _)); apply bp2; exact pk BKz2) Try.underlying23 rfl (by kernel_rfl) (.tmp .nil)))) rfl ?_
 exact ⟨by first | rfl | (simp [errW_none, errW_some] <;> rfl) | (simp only [← hsx29]; first | rfl | (simp [errW_none, errW_some] <;> rfl)) | (simp [*, errW_none, errW_some] <;> rfl), sC_ HB⟩
end Go.Proofs.Ytmkncddbecmlpaa.Pr
end
section
set_option linter.unusedVariables false
namespace Go.Proofs.Ytmkncddbecmlpaa.Pr
open Go.RowKit Go.Proofs.YtmkncddbecmlpaaW.PrintWords Go.Proofs.YtmkncddbecmlpaaW.PrintLast Go.Proofs.YtmkncddbecmlpaaW.PrintMore
def rightB (b : ByteArray) (p : Int) : Bool := decide ((b.size : Int) ≤ 65536 ∧ 0 ≤ p ∧ p ≤ (b.size : Int))
def takeP (b : ByteArray) (p n : Int) : ByteArray × ByteArray × Int × Int :=
  if rightB b p = true ∧ 0 ≤ n then (if n > (b.size : Int) - p then (⟨#[]⟩, b, p, 12) else (b.extract p.toNat (p + n).toNat, b, p + n, 0)) else (⟨#[]⟩, b, p, 1)
theorem takeP_ok {b : ByteArray} {p n : Int} (h : rightB b p = true) (h0 : 0 ≤ n) (hl : n ≤ (b.size : Int) - p) : takeP b p n = (b.extract p.toNat (p + n).toNat, b, p + n, 0) := by
  unfold takeP; rw [if_pos ⟨h, h0⟩, if_neg (by omega)]
theorem takeP_short {b : ByteArray} {p n : Int} (h : rightB b p = true) (h0 : 0 ≤ n) (hl : n > (b.size : Int) - p) : takeP b p n = (⟨#[]⟩, b, p, 12) := by
  unfold takeP; rw [if_pos ⟨h, h0⟩, if_pos hl]
theorem takeP_bad {b : ByteArray} {p n : Int} (h : ¬ (rightB b p = true ∧ 0 ≤ n)) : takeP b p n = (⟨#[]⟩, b, p, 1) := by
  unfold takeP; rw [if_neg h]
theorem right_eq (b : ByteArray) (p : Int) : tape_Right.f b p = some (rightB b p) := by
  unfold tape_Right.f rightB
  by_cases h1 : (b.size : Int) ≤ 65536
  · by_cases h2 : p ≥ 0
    · rw [if_pos h1, if_pos h2]; simp [h1]; omega
    · rw [if_pos h1, if_neg h2]; simp; omega
  · rw [if_neg h1]; simp; omega
theorem rright_eq (b : ByteArray) (p : Int) : r7_Right.f b p = some (rightB b p) := right_eq b p
theorem rightB_iff {b : ByteArray} {p : Int} : rightB b p = true ↔ ((b.size : Int) ≤ 65536 ∧ 0 ≤ p ∧ p ≤ (b.size : Int)) := by unfold rightB; simp
def leftP (b : ByteArray) (p : Int) : Int := if rightB b p = true then (b.size : Int) - p else 0
theorem left_eq (b : ByteArray) (p : Int) : tape_Left.f b p = some (leftP b p) := by
  unfold tape_Left.f leftP
  rw [right_eq]
  simp only [Option.bind_some]
  by_cases h : rightB b p = true
  · rw [if_pos h, if_pos h]
    obtain ⟨h1, h2, h3⟩ := rightB_iff.1 h
    congr 1
    unfold wrap64; omega
  · rw [if_neg h, if_neg h]
theorem rleft_eq (b : ByteArray) (p : Int) : r7_Left.f b p = some (leftP b p) := left_eq b p
theorem extract_twice (b : ByteArray) (i n : Nat) (h : i + n ≤ b.size) : (b.extract i b.size).extract 0 n = b.extract i (i + n) := by
  rw [ByteArray.extract_extract]
  congr 1 <;> omega
theorem extract_size' (b : ByteArray) (i j : Nat) (h : j ≤ b.size) : (b.extract i j).size = j - i := by
  rw [ByteArray.size_extract]; omega
theorem take_eq (b : ByteArray) (p n : Int) (k : Nat) : tape_Take.f (k + 1) b p n = some (takeP b p n) := by
  unfold tape_Take.f
  rw [right_eq]
  simp only [Option.bind_some]
  by_cases h : rightB b p = true
  · obtain ⟨h1, h2, h3⟩ := rightB_iff.1 h
    rw [if_pos h]
    simp only [tape_Take.j0]
    by_cases hn : n < 0
    · rw [if_pos (decide_eq_true hn), takeP_bad (by omega)]
    · rw [if_neg (by simpa using hn), left_eq]
      simp only [Option.bind_some]
      have hL : leftP b p = (b.size : Int) - p := if_pos h
      rw [hL]
      by_cases hl : n > (b.size : Int) - p
      · rw [if_pos hl, takeP_short h (by omega) hl]
      · have e1 : (p.toNat : Int) = p := Int.toNat_of_nonneg h2
        have e2 : (n.toNat : Int) = n := Int.toNat_of_nonneg (by omega)
        rw [if_neg hl, if_pos h2, if_pos h3, if_pos (by omega), if_pos (by rw [extract_size' _ _ _ (Nat.le_refl _)]; omega)]
        rw [extract_twice b p.toNat n.toNat (by omega), show p.toNat + n.toNat = (p + n).toNat from by omega, show wrap64 (p + n) = p + n from by unfold wrap64; omega, takeP_ok h (by omega) (by omega)]
  · rw [if_neg h]
    simp only [tape_Take.j0]
    rw [if_pos (by simpa using h), takeP_bad (by simp [h])]
theorem rtake_eq (b : ByteArray) (p n : Int) (hw : n ≤ 9223372036854775807) (k : Nat) : r7_Take.f (k + 1) b p n = some (takeP b p n) := by
  unfold r7_Take.f
  rw [rright_eq]
  simp only [Option.bind_some]
  by_cases h : rightB b p = true
  · obtain ⟨h1, h2, h3⟩ := rightB_iff.1 h
    rw [if_pos h]
    simp only [r7_Take.j0]
    by_cases hn : n < 0
    · rw [if_pos (decide_eq_true hn), takeP_bad (by omega)]
    · rw [if_neg (by simpa using hn), rleft_eq]
      simp only [Option.bind_some]
      have hL : leftP b p = (b.size : Int) - p := if_pos h
      rw [hL]
      by_cases hl : n > (b.size : Int) - p
      · rw [if_pos hl, takeP_short h (by omega) hl]
      · have e : wrap64 (p + n) = p + n := by unfold wrap64; omega
        rw [if_neg hl, if_pos h2, e, if_pos (by omega), if_pos (by omega), takeP_ok h (by omega) (by omega)]
  · rw [if_neg h]
    simp only [r7_Take.j0]
    rw [if_pos trivial, takeP_bad (by simp [h])]
end Go.Proofs.Ytmkncddbecmlpaa.Pr
end
section
set_option linter.unusedVariables false
namespace Go.Proofs.Ytmkncddbecmlpaa.Pr
open Go.RowKit Go.Proofs.YtmkncddbecmlpaaW.PrintWords Go.Proofs.YtmkncddbecmlpaaW.PrintLast Go.Proofs.YtmkncddbecmlpaaW.PrintMore
theorem tapeP_eq (b : ByteArray) (a : Int) : tapeP b a = rightB b a := by
  unfold tapeP rightB
  by_cases h1 : (b.size : Int) ≤ 65536 <;> by_cases h2 : a ≥ 0 <;> by_cases h3 : a ≤ (b.size : Int) <;> simp [h1, h2, h3] <;> omega
structure RightS (b : ByteArray) (a : Int) (ns : List S72) (cs : List S74) (cl : Bool) : Prop where
  tape : rightB b a = true
  len : ns.length ≤ 2000 ∧ cs.length ≤ 2000
  names : ∀ n ∈ ns, n.f0.size ≤ 100 ∧ n.f1.size = 16
  cells : ∀ c ∈ cs, c.f0.size = 16 ∧ c.f1.size = 24 ∧ c.f2.size = 40
  dn : (ns.map fun n => n.f0).Nodup
  dc : (cs.map fun c => (c.f0, c.f1)).Nodup
  clash : cl = clashP ns cs
theorem oddName_iff (n : S72) : oddName n = false ↔ n.f0.size ≤ 100 ∧ n.f1.size = 16 := by
  unfold oddName; simp; omega
theorem oddCell_iff (c : S74) : oddCell c = false ↔ c.f0.size = 16 ∧ c.f1.size = 24 ∧ c.f2.size = 40 := by
  unfold oddCell; simp; omega
theorem dup_iff {κ : Type} [DecidableEq κ] (l : List κ) : dup l = false ↔ l.Nodup := by unfold dup; simp
theorem rightP_iff {b : ByteArray} {a : Int} {ns : List S72} {cs : List S74} {cl : Bool} : rightP b a ns cs cl = true ↔ RightS b a ns cs cl := by
  unfold rightP
  rw [tapeP_eq]
  simp only [Bool.and_eq_true, Bool.not_eq_true', decide_eq_true_eq, beq_iff_eq, dup_iff, List.any_eq_false]
  constructor
  · rintro ⟨⟨⟨⟨⟨⟨h1, h2⟩, h3⟩, h4⟩, h5⟩, h6⟩, h7⟩
    exact ⟨h1, h2, fun n hn => (oddName_iff n).1 (by simpa using h3 n hn), fun c hc => (oddCell_iff c).1 (by simpa using h4 c hc), h5, h6, h7⟩
  · rintro ⟨h1, h2, h3, h4, h5, h6, h7⟩
    exact ⟨⟨⟨⟨⟨⟨h1, h2⟩, fun n hn => by simpa using (oddName_iff n).2 (h3 n hn)⟩, fun c hc => by simpa using (oddCell_iff c).2 (h4 c hc)⟩, h5⟩, h6⟩, h7⟩
def cut (b : ByteArray) (a n : Int) : ByteArray := b.extract a.toNat (a + n).toNat
theorem cut_size {b : ByteArray} {a n : Int} (h0 : 0 ≤ a) (hn : 0 ≤ n) (h : a + n ≤ (b.size : Int)) : ((cut b a n).size : Int) = n := by
  unfold cut
  rw [extract_size' _ _ _ (by omega)]
  omega
theorem own_eq {b : ByteArray} {a : Int} {ns : List S72} {cs : List S74} {cl : Bool} (hl : ns.length ≤ 2000 ∧ cs.length ≤ 2000) : ideal_own.f b a ns cs cl = some (b, a, ns, cs, cl) := by
  unfold ideal_own.f api_Name_69.f api_Made_70.f
  rw [if_pos (by omega)]
  simp only [Option.bind_some]
  rw [if_pos (by omega)]
  rfl
section
variable {b : ByteArray} {a : Int} {ns : List S72} {cs : List S74} {cl : Bool}
theorem RightS.name (h : RightS b a ns cs cl) {t : ByteArray} (ht : t.size ≤ 100) (hlen : ns.length < 2000) (hnew : ∀ n ∈ ns, n.f0 ≠ t) (hroom : a + 16 ≤ (b.size : Int)) :
    RightS b (a + 16) (ns ++ [⟨t, cut b a 16⟩]) cs (clashP (ns ++ [⟨t, cut b a 16⟩]) cs) where
  tape := by have := rightB_iff.1 h.tape; exact rightB_iff.2 ⟨this.1, by omega, hroom⟩
  len := ⟨by simp; omega, h.len.2⟩
  names n hn := by
    rcases List.mem_append.1 hn with hn | hn
    · exact h.names n hn
    · obtain rfl := List.mem_singleton.1 hn
      have := cut_size (rightB_iff.1 h.tape).2.1 (by omega) hroom
      exact ⟨ht, by simp only; omega⟩
  cells := h.cells
  dn := by
    rw [List.map_append, List.nodup_append]
    refine ⟨h.dn, by simp, ?_⟩
    intro x hx y hy
    obtain ⟨n, hn, rfl⟩ := List.mem_map.1 hx
    simp at hy
    subst hy
    exact hnew n hn
  dc := h.dc
  clash := rfl
theorem RightS.cell (h : RightS b a ns cs cl) {l t : ByteArray} (hl : l.size = 16) (ht : t.size = 24) (hlen : cs.length < 2000) (hnew : ∀ c ∈ cs, ¬ (c.f0 = l ∧ c.f1 = t)) (hroom : a + 40 ≤ (b.size : Int)) :
    RightS b (a + 40) ns (cs ++ [⟨l, t, cut b a 40⟩]) (clashP ns (cs ++ [⟨l, t, cut b a 40⟩])) where
  tape := by have := rightB_iff.1 h.tape; exact rightB_iff.2 ⟨this.1, by omega, hroom⟩
  len := ⟨h.len.1, by simp; omega⟩
  names := h.names
  cells n hn := by
    rcases List.mem_append.1 hn with hn | hn
    · exact h.cells n hn
    · obtain rfl := List.mem_singleton.1 hn
      have := cut_size (rightB_iff.1 h.tape).2.1 (by omega) hroom
      exact ⟨hl, ht, by simp only; omega⟩
  dn := h.dn
  dc := by
    rw [List.map_append, List.nodup_append]
    refine ⟨h.dc, by simp, ?_⟩
    intro x hx y hy
    obtain ⟨n, hn, rfl⟩ := List.mem_map.1 hx
    simp at hy
    subst hy
    intro e
    exact hnew n hn (by simpa using e)
  clash := rfl
theorem fnd_none {α : Type} {z : α} {p : α → Bool} {xs : List α} (h : ∀ x ∈ xs, p x = false) : fnd z p xs = (z, false) := by
  unfold fnd
  rw [List.find?_eq_none.2 (fun x hx => by simp [h x hx])]
theorem fnd_some {α : Type} {z : α} {p : α → Bool} {xs : List α} {x : α} (hx : x ∈ xs) (hp : p x = true) : ∃ y ∈ xs, p y = true ∧ fnd z p xs = (y, true) := by
  unfold fnd
  cases h : xs.find? p with
  | none => exact absurd hp (by rw [List.find?_eq_none] at h; exact h x hx)
  | some y => exact ⟨y, List.mem_of_find?_eq_some h, List.find?_some h, rfl⟩
theorem nodup_map {α β : Type} {f : α → β} : ∀ {xs : List α}, (xs.map f).Nodup → ∀ {x y : α}, x ∈ xs → y ∈ xs → f x = f y → x = y
  | [], _, _, _, hx, _, _ => by cases hx
  | z :: zs, h, x, y, hx, hy, e => by
    simp only [List.map_cons, List.nodup_cons] at h
    rcases List.mem_cons.1 hx with rfl | hx' <;> rcases List.mem_cons.1 hy with rfl | hy'
    · rfl
    · exact absurd (by rw [e]; exact List.mem_map_of_mem hy') h.1
    · exact absurd (by rw [← e]; exact List.mem_map_of_mem hx') h.1
    · exact nodup_map h.2 hx' hy' e
theorem label_new (h : RightS b a ns cs cl) {t : ByteArray} (ht : t.size ≤ 100) (hlen : ns.length < 2000) (hnew : ∀ n ∈ ns, n.f0 ≠ t) (hroom : a + 16 ≤ (b.size : Int)) (k : Nat) :
    ideal_Label.f (k + 2) b a ns cs cl t = some (cut b a 16, b, a + 16, ns ++ [⟨t, cut b a 16⟩], cs, clashP (ns ++ [⟨t, cut b a 16⟩]) cs, 0) := by
  unfold ideal_Label.f
  rw [own_eq h.len]
  simp only [Option.bind_some]
  unfold ideal_Right.f
  rw [rightP_iff.2 h]
  simp only [Option.bind_some, if_pos]
  simp only [ideal_Label.j0]
  have h1 : decide ((t.size : Int) > 100) = false := by simp; omega
  rw [h1, if_neg (by simp)]
  unfold ideal_find_51.f
  rw [fnd_none (fun n hn => by simpa using hnew n hn)]
  simp only [Option.bind_some]
  rw [if_neg (by simp), if_neg (by omega), take_eq, takeP_ok h.tape (by omega) (by omega)]
  simp only [Option.bind_some]
  rw [if_pos trivial, own_eq h.len]
  simp only [Option.bind_some]
  rw [if_pos (by have := h.len.1; omega)]
  unfold ideal_clash.f
  simp only [Option.bind_some]
  rfl
theorem label_old (h : RightS b a ns cs cl) {t : ByteArray} (ht : t.size ≤ 100) {n : S72} (hn : n ∈ ns) (e : n.f0 = t) (k : Nat) :
    ideal_Label.f (k + 1) b a ns cs cl t = some (n.f1, b, a, ns, cs, cl, 0) := by
  unfold ideal_Label.f
  rw [own_eq h.len]
  simp only [Option.bind_some]
  unfold ideal_Right.f
  rw [rightP_iff.2 h]
  simp only [Option.bind_some, if_pos]
  simp only [ideal_Label.j0]
  have h1 : decide ((t.size : Int) > 100) = false := by simp; omega
  rw [h1, if_neg (by simp)]
  unfold ideal_find_51.f
  obtain ⟨y, hy, hp, hf⟩ := fnd_some (z := z72) (p := fun n => decide (n.f0 = t)) hn (by simpa using e)
  rw [hf]
  simp only [Option.bind_some]
  rw [if_pos trivial]
  have : y = n := nodup_map h.dn hy hn (by simp at hp; rw [hp, e])
  rw [this]
theorem seal_new (h : RightS b a ns cs cl) {l t : ByteArray} (hl : l.size = 16) (ht : t.size = 24) (hlen : cs.length < 2000) (hnew : ∀ c ∈ cs, ¬ (c.f0 = l ∧ c.f1 = t)) (hroom : a + 40 ≤ (b.size : Int)) (k : Nat) :
    ideal_Seal.f (k + 2) b a ns cs cl l t = some (cut b a 40, b, a + 40, ns, cs ++ [⟨l, t, cut b a 40⟩], clashP ns (cs ++ [⟨l, t, cut b a 40⟩]), 0) := by
  unfold ideal_Seal.f
  rw [own_eq h.len]
  simp only [Option.bind_some]
  unfold ideal_Right.f
  rw [rightP_iff.2 h]
  simp only [Option.bind_some, if_pos]
  rw [if_pos (by omega)]
  simp only [ideal_Seal.j0]
  have h1 : ((t.size : Int) != 24) = false := by simp; omega
  rw [h1, if_neg (by simp)]
  unfold ideal_find_66.f
  rw [fnd_none (fun n hn => by have := hnew n hn; by_cases e : n.f0 = l <;> simp_all)]
  simp only [Option.bind_some]
  rw [if_neg (by simp), if_neg (by omega), take_eq, takeP_ok h.tape (by omega) (by omega)]
  simp only [Option.bind_some]
  rw [if_pos trivial, own_eq h.len]
  simp only [Option.bind_some]
  rw [if_pos (by have := h.len.2; omega)]
  unfold ideal_clash.f
  simp only [Option.bind_some]
  rfl
theorem seal_old (h : RightS b a ns cs cl) {l t : ByteArray} (hl : l.size = 16) (ht : t.size = 24) {c : S74} (hc : c ∈ cs) (e1 : c.f0 = l) (e2 : c.f1 = t) (k : Nat) :
    ideal_Seal.f (k + 1) b a ns cs cl l t = some (c.f2, b, a, ns, cs, cl, 0) := by
  unfold ideal_Seal.f
  rw [own_eq h.len]
  simp only [Option.bind_some]
  unfold ideal_Right.f
  rw [rightP_iff.2 h]
  simp only [Option.bind_some, if_pos]
  rw [if_pos (by omega)]
  simp only [ideal_Seal.j0]
  have h1 : ((t.size : Int) != 24) = false := by simp; omega
  rw [h1, if_neg (by simp)]
  unfold ideal_find_66.f
  obtain ⟨y, hy, hp, hf⟩ := fnd_some (z := z74) (p := fun n => decide (n.f0 = l) && decide (n.f1 = t)) hc (by simp [e1, e2])
  rw [hf]
  simp only [Option.bind_some]
  rw [if_pos trivial]
  have : y = c := nodup_map h.dc hy hc (by simp at hp; simp [hp, e1, e2])
  rw [this]
theorem open_eq (h : RightS b a ns cs cl) (l x : ByteArray) : ideal_Open.f b a ns cs cl l x = some (match cs.find? (fun n => decide (n.f0 = l) && decide (n.f2 = x)) with | some c => (c.f1, 0) | none => (⟨#[]⟩, 11)) := by
  unfold ideal_Open.f
  unfold ideal_Right.f
  rw [rightP_iff.2 h]
  simp only [Option.bind_some, if_pos]
  unfold ideal_find_67.f fnd
  cases hf : cs.find? (fun n => decide (n.f0 = l) && decide (n.f2 = x)) with
  | none => simp
  | some y => simp
theorem new_eq (h : rightB b a = true) : ideal_New.f b a = some (b, a, [], [], false, 0) := by
  unfold ideal_New.f
  rw [right_eq, h]
  rfl
theorem new_right (h : rightB b a = true) : RightS b a [] [] false where
  tape := h
  len := by simp
  names := by simp
  cells := by simp
  dn := by simp
  dc := by simp
  clash := by rfl
end
end Go.Proofs.Ytmkncddbecmlpaa.Pr
end
section
set_option linter.unusedVariables false
namespace Go.Proofs.Ytmkncddbecmlpaa.Pr
open Go.RowKit Go.Proofs.YtmkncddbecmlpaaW.PrintWords Go.Proofs.YtmkncddbecmlpaaW.PrintLast Go.Proofs.YtmkncddbecmlpaaW.PrintMore
section
variable {b : ByteArray} {a : Int} {ns : List S72} {cs : List S74} {cl : Bool}
theorem same_l1 (hl : cs.length ≤ 2000) : ∀ (d i k : Nat), i + d = cs.length → d < k → r8_Same.l1 k i b a ns cs cl b a ns cs cl = some true := by
  intro d
  induction d with
  | zero =>
    intro i k h hk
    obtain ⟨k, rfl⟩ : ∃ m, k = m + 1 := ⟨k - 1, by omega⟩
    simp only [r8_Same.l1]
    rw [if_neg (by omega)]
  | succ d ih =>
    intro i k h hk
    obtain ⟨k, rfl⟩ : ∃ m, k = m + 1 := ⟨k - 1, by omega⟩
    simp only [r8_Same.l1]
    rw [if_pos (by omega), if_pos (by omega), if_pos (by omega), if_neg (by simp), show wrap64 ((i : Int) + 1) = ((i + 1 : Nat) : Int) from by unfold wrap64; omega]
    exact ih (i + 1) k (by omega) (by omega)
theorem same_l0 (hl : cs.length ≤ 2000) (hl2 : ns.length ≤ 2000) : ∀ (d i k : Nat), i + d = ns.length → d + cs.length + 1 < k → r8_Same.l0 k i b a ns cs cl b a ns cs cl = some true := by
  intro d
  induction d with
  | zero =>
    intro i k h hk
    obtain ⟨k, rfl⟩ : ∃ m, k = m + 1 := ⟨k - 1, by omega⟩
    simp only [r8_Same.l0]
    rw [if_neg (by omega)]
    exact same_l1 hl cs.length 0 k (by omega) (by omega)
  | succ d ih =>
    intro i k h hk
    obtain ⟨k, rfl⟩ : ∃ m, k = m + 1 := ⟨k - 1, by omega⟩
    simp only [r8_Same.l0]
    rw [if_pos (by omega), if_pos (by omega), if_pos (by omega), if_neg (by simp), show wrap64 ((i : Int) + 1) = ((i + 1 : Nat) : Int) from by unfold wrap64; omega]
    exact ih (i + 1) k (by omega) (by omega)
theorem same_refl (hl : ns.length ≤ 2000 ∧ cs.length ≤ 2000) {k : Nat} (hk : ns.length + cs.length + 2 < k) : r8_Same.f k b a ns cs cl b a ns cs cl = some true := by
  obtain ⟨k, rfl⟩ : ∃ m, k = m + 1 := ⟨k - 1, by omega⟩
  unfold r8_Same.f
  rw [if_neg (by simp), if_neg (by simp), if_pos rfl]
  simp only [r8_Same.j0]
  rw [if_neg (by simp)]
  exact same_l0 hl.2 hl.1 ns.length 0 k (by omega) (by omega)
theorem label_short (h : RightS b a ns cs cl) {t : ByteArray} (ht : t.size ≤ 100) (hlen : ns.length < 2000) (hnew : ∀ n ∈ ns, n.f0 ≠ t) (hroom : ¬ a + 16 ≤ (b.size : Int)) (k : Nat) :
    ideal_Label.f (k + 2) b a ns cs cl t = some (⟨#[]⟩, b, a, ns, cs, cl, 12) := by
  unfold ideal_Label.f
  rw [own_eq h.len]
  simp only [Option.bind_some]
  unfold ideal_Right.f
  rw [rightP_iff.2 h]
  simp only [Option.bind_some, if_pos]
  simp only [ideal_Label.j0]
  have h1 : decide ((t.size : Int) > 100) = false := by simp; omega
  rw [h1, if_neg (by simp)]
  unfold ideal_find_51.f
  rw [fnd_none (fun n hn => by simpa using hnew n hn)]
  simp only [Option.bind_some]
  rw [if_neg (by simp), if_neg (by omega), take_eq, takeP_short h.tape (by omega) (by omega)]
  simp only [Option.bind_some]
  rw [if_neg (by simp)]
end
def tape16 : ByteArray := ⟨#[97, 98, 99, 100, 101, 102, 103, 104, 105, 106, 107, 108, 109, 110, 111, 112]⟩
theorem awake8 (k : Nat) : u8_awake.f (k + 5) = some true := by
  have h0 : rightB tape16 0 = true := by rfl
  have hR := new_right h0
  have hx : ((⟨#[120]⟩ : ByteArray)).size ≤ 100 := by decide
  have hy : ((⟨#[121]⟩ : ByteArray)).size ≤ 100 := by decide
  have hroom : (0 : Int) + 16 ≤ (tape16.size : Int) := by decide
  have hc : cut tape16 0 16 = tape16 := by rfl
  have hR2 := hR.name hx (by simp) (by simp) hroom
  have hL := label_new hR hx (by simp) (by simp) hroom (k + 3)
  rw [hc] at hR2 hL
  unfold u8_awake.f
  show (ideal_New.f tape16 0).bind _ = _
  rw [new_eq h0]
  simp only [Option.bind_some]
  rw [hL]
  simp only [Option.bind_some]
  rw [label_old hR2 hx (List.mem_append_right _ (List.mem_singleton.2 rfl)) rfl]
  simp only [Option.bind_some]
  rw [label_short hR2 hy (by simp) (by simp) (by decide)]
  simp only [Option.bind_some]
  rw [open_eq hR]
  simp only [Option.bind_some]
  have hN : ideal_New.f (⟨#[]⟩ : ByteArray) 1 = some (⟨#[]⟩, 0, [], [], false, 1) := by rfl
  rw [hN]
  simp only [Option.bind_some]
  rw [if_pos trivial, if_pos (by rw [ByteArray.toList_eq]; rfl), if_pos trivial, if_pos trivial, if_pos trivial, same_refl hR2.len (by simp), Option.bind_some]
  simp only [List.find?_nil, if_pos]
  unfold ideal_Right.f
  rw [rightP_iff.2 hR2]
  rfl
theorem pick8 {a n : Int} (hw : (Lit.int .i64 a).wf = true) (hn : 0 < n) : ∃ r, u8_pick.f a n = some r ∧ 0 ≤ r ∧ r < n := by
  unfold u8_pick.f
  have hr : -9223372036854775808 ≤ a ∧ a ≤ 9223372036854775807 := bounds_i64 hw
  by_cases h : a < 0
  · have e1 : wrap64 (a + 1) = a + 1 := by unfold wrap64; omega
    have e2 : wrap64 (-(a + 1)) = -(a + 1) := by unfold wrap64; omega
    rw [if_pos h, if_neg (by omega), e1, e2, Int.tmod_eq_emod_of_nonneg (by omega)]
    exact ⟨_, rfl, Int.emod_nonneg _ (by omega), Int.emod_lt_of_pos _ hn⟩
  · rw [if_neg h, if_neg (by omega), Int.tmod_eq_emod_of_nonneg (by omega)]
    exact ⟨_, rfl, Int.emod_nonneg _ (by omega), Int.emod_lt_of_pos _ hn⟩
theorem rd_wf {xs : List Int} (h : ∀ x ∈ xs, (Lit.int .i64 x).wf = true) {i : Int} (h0 : 0 ≤ i) (h1 : i < xs.length) : (Lit.int .i64 (rd xs i)).wf = true := by
  unfold rd
  have hi : i.toNat < xs.length := by omega
  have : xs.getD i.toNat 0 = xs[i.toNat] := by simp [hi]
  first
  | (rw [this]; exact h _ (List.getElem_mem hi))
  | (simp [hi]; exact h _ (List.getElem_mem hi))
theorem draws8 {x0 : List Int} (hw : ∀ x ∈ x0, (Lit.int .i64 x).wf = true) (hx : x0.length ≤ maxLen) (x1 : Bool) : ∀ (d : Nat) (x5 : List Int) (k : Nat), x5.length + d = 2000 → 2 * d < k → ∃ b, u8_Draws.l0 k x0 x1 x5 x5.length = some (b, 0) ∧ b.size = 2000 := by
  intro d
  induction d with
  | zero =>
    intro x5 k h hk
    obtain ⟨k, rfl⟩ : ∃ m, k = m + 1 := ⟨k - 1, by omega⟩
    simp only [u8_Draws.l0]
    rw [if_neg (by omega)]
    exact ⟨_, rfl, by rw [strOfNums_size]; omega⟩
  | succ d ih =>
    intro x5 k h hk
    obtain ⟨k, rfl⟩ : ∃ m, k = m + 1 + 1 := ⟨k - 2, by omega⟩
    have hnext : ∀ v, ∃ b, u8_Draws.l0 k x0 x1 (x5 ++ [v]) (wrap64 ((x5.length : Int) + 1)) = some (b, 0) ∧ b.size = 2000 := fun v => by
      rw [show wrap64 ((x5.length : Int) + 1) = (((x5 ++ [v]).length : Nat) : Int) from by simp; unfold wrap64; omega]
      exact ih (x5 ++ [v]) k (by simp; omega) (by omega)
    have hj : ∀ x7, ∃ b, u8_Draws.j1 (k + 1) x0 x1 x5 x5.length x7 = some (b, 0) ∧ b.size = 2000 := fun x7 => by
      simp only [u8_Draws.j1]
      have hl : x5.length < 140737488355328 := by omega
      have e8 : wrap64 (Int.tdiv (x5.length : Int) 8) = (x5.length : Int) / 8 := by rw [Int.tdiv_eq_ediv_of_nonneg (by omega)]; unfold wrap64; omega
      cases x1
      · rw [if_neg (by simp), if_pos hl]
        exact hnext _
      · rw [if_pos rfl]
        by_cases h8 : Int.tmod (x5.length : Int) 8 = 0
        · rw [if_pos h8]
          by_cases hp : (x0.length : Int) > 0
          · have hm0 : 0 ≤ Int.tmod (wrap64 (Int.tdiv (x5.length : Int) 8)) (x0.length : Int) := by rw [e8]; exact Int.tmod_nonneg _ (by omega)
            have hm1 : Int.tmod (wrap64 (Int.tdiv (x5.length : Int) 8)) (x0.length : Int) < (x0.length : Int) := by rw [e8]; exact Int.tmod_lt_of_pos _ hp
            rw [if_pos hp, if_neg (by omega), if_pos hm0, if_pos hm1]
            obtain ⟨r, hr, _⟩ := pick8 (rd_wf hw hm0 hm1) (n := 3) (by omega)
            rw [hr]
            simp only [Option.bind_some]
            rw [if_pos hl]
            exact hnext _
          · rw [if_neg hp, if_pos hl]
            exact hnext _
        · rw [if_neg h8, if_pos hl]
          exact hnext _
    simp only [u8_Draws.l0]
    rw [if_pos (by omega)]
    by_cases hp : (x0.length : Int) > 0
    · have hm0 : 0 ≤ Int.tmod (x5.length : Int) (x0.length : Int) := Int.tmod_nonneg _ (by omega)
      have hm1 : Int.tmod (x5.length : Int) (x0.length : Int) < (x0.length : Int) := Int.tmod_lt_of_pos _ hp
      rw [if_pos hp, if_neg (by omega), if_pos hm0, if_pos hm1]
      obtain ⟨r, hr, _⟩ := pick8 (rd_wf hw hm0 hm1) (n := 256) (by omega)
      rw [hr]
      simp only [Option.bind_some]
      exact hj _
    · rw [if_neg hp]
      exact hj _
theorem draws_eq {x0 : List Int} (hw : ∀ x ∈ x0, (Lit.int .i64 x).wf = true) (hx : x0.length ≤ maxLen) (x1 : Bool) {k : Nat} (hk : 4000 < k) : ∃ b, u8_Draws.f k x0 x1 = some (b, 0) ∧ b.size = 2000 :=
  draws8 hw hx x1 2000 [] k rfl (by omega)
theorem sn_append (xs ys : List Int) : strOfNums xs ++ strOfNums ys = strOfNums (xs ++ ys) := by
  apply ByteArray.ext
  simp [strOfNums, ByteArray.data_append]
theorem label8 {a : Int} (hw : (Lit.int .i64 a).wf = true) : ∃ r, u8_pick.f a 4 = some r ∧ 0 ≤ r ∧ r < 4 ∧ u8_Label.f a = some (strOfNums ([108, r] ++ List.replicate 14 0)) := by
  obtain ⟨r, hr, h0, h1⟩ := pick8 hw (n := 4) (by omega)
  refine ⟨r, hr, h0, h1, ?_⟩
  unfold u8_Label.f
  rw [hr]
  simp only [Option.bind_some]
  rw [if_pos (by decide), if_pos (by rw [strOfNums_size, strOfNums_size]; simp), sn_append, show r % 256 = r from by omega]
theorem text8 {a : Int} (hw : (Lit.int .i64 a).wf = true) : ∃ r, u8_pick.f a 5 = some r ∧ 0 ≤ r ∧ r < 5 ∧ u8_Text.f a = some (strOfNums ([r] ++ List.replicate 23 0)) := by
  obtain ⟨r, hr, h0, h1⟩ := pick8 hw (n := 5) (by omega)
  refine ⟨r, hr, h0, h1, ?_⟩
  unfold u8_Text.f
  rw [hr]
  simp only [Option.bind_some]
  rw [if_pos (by decide), if_pos (by rw [strOfNums_size, strOfNums_size]; simp), sn_append, show r % 256 = r from by omega]
end Go.Proofs.Ytmkncddbecmlpaa.Pr
end
section
namespace Go.Proofs.Ytmkncddbecmlpaa.Pr
open Go.Proofs.Ytmkncddbecmlpaa.Sq Go.RowKit Go.Proofs.YtmkncddbecmlpaaW.PrintWords Go.Proofs.YtmkncddbecmlpaaW.PrintLast Go.Proofs.YtmkncddbecmlpaaW.PrintMore
attribute [local go_sem] max2_int min2_int max_two min_two max_three min_three max_four min_four
set_option linter.unusedVariables false
set_option linter.unusedSimpArgs false
def r8_Own.f (a0_0 : ByteArray) (a0_1 : Int) (l0_2 : List (S72)) (l0_3 : List (S74)) (a0_4 : Bool) : Option (ByteArray × Int × (List (S72)) × (List (S74)) × Bool) := if ([] : List (S72)).length + l0_2.length < 4398046511104 then (if ([] : List (S74)).length + l0_3.length < 2932031007402 then (some (a0_0, a0_1, (([] : List (S72)) ++ l0_2), (([] : List (S74)) ++ l0_3), a0_4)) else (none)) else (none)
def r8_Own.T1 : Bool × List (List Nat × List Nat) := (true, [([], []), ([0], [0]), ([], []), ([2], [2]), ([3], [3]), ([], []), ([5], [5]), ([6, 4], [6]), ([], []), ([8], [8]), ([1, 4, 7, 9], [1, 4, 7, 9]), ([10, 7, 0, 1, 2, 3, 4, 5, 6, 7, 8, 9, 10], [10])])
def r8_Own.B1 : List Nat := [0, 1, 0, 4, 12, 0, 32, 124, 0, 256, 1023, 2047]
theorem r8_Own.tab1 : rtab .any (opsOf Try.f53 1) = r8_Own.T1 := by kernel_rfl
theorem r8_Own.bits1 : waitsOk r8_Own.T1.2 r8_Own.B1 = true := by kernel_rfl
set_option maxHeartbeats 8000000 in
set_option maxRecDepth 100000 in
theorem r8_Own.calls (a0_0 : ByteArray) (a0_1 : Int) (A0_2 : Option Addr) (c0_2 : Nat) (l0_2 : List (S72)) (A0_3 : Option Addr) (c0_3 : Nat) (l0_3 : List (S74)) (a0_4 : Bool) (r1 : ByteArray) (r2 : Int) (r3 : List (S72)) (r4 : List (S74)) (r5 : Bool) (w : World) (hr0_2 : Kd.C k72 w A0_2 l0_2.length l0_2) (hc0_2 : l0_2.length ≤ c0_2) (hr0_3 : Kd.C k74 w A0_3 l0_3.length l0_3) (hc0_3 : l0_3.length ≤ c0_3) (h : r8_Own.f a0_0 a0_1 l0_2 l0_3 a0_4 = some (r1, r2, r3, r4, r5)) :
  Calls Try.prog 53 #[.agg #[.string a0_0, .int .i64 a0_1, .slice A0_2 l0_2.length c0_2, .slice A0_3 l0_3.length c0_3, .bool a0_4]] w fun e w' => ∃ v2_ v3_ : Value, e = .returned (.agg #[.string r1, .int .i64 r2, v2_, v3_, .bool r5]) ∧ Kd.R k72 72 w' w.heap.size (fun _ => True) v2_ r3 ∧ Kd.R k74 74 w' w.heap.size (fun _ => True) v3_ r4 ∧ Below w.heap.size w w' := by
 have hu50 := Try.underlying50
 have hu23 := Try.underlying23
 have HR0_2 := am hr0_2
 have HC0_2 := am hc0_2
 clear hr0_2 hc0_2
 have HR0_3 := am hr0_3
 have HC0_3 := am hc0_3
 clear hr0_3 hc0_3
 have HB := am (Below.refl w.heap.size w)
 have H : (if ([] : List (S72)).length + l0_2.length < 4398046511104 then (if ([] : List (S74)).length + l0_3.length < 2932031007402 then (some (a0_0, a0_1, (([] : List (S72)) ++ l0_2), (([] : List (S74)) ++ l0_3), a0_4)) else (none)) else (none)) = some (r1, r2, r3, r4, r5) := h
 clear h
 by_cases c2 : ([] : List (S72)).length + l0_2.length < 4398046511104
 rotate_left
 ·rw [if_neg c2] at H
  exact absurd H (by simp)
 rw [if_pos c2] at H
 have LMc2 := Aside0.mk c2
 clear c2
 obtain ⟨yz3, hyz3⟩ : ∃ y_ : List (S72), y_ = (([] : List (S72)) ++ l0_2) := ⟨_, rfl⟩
 replace H : (if ([] : List (S74)).length + l0_3.length < 2932031007402 then (some (a0_0, a0_1, yz3, (([] : List (S74)) ++ l0_3), a0_4)) else (none)) = some (r1, r2, r3, r4, r5) := by first | (rw [hyz3]; with_reducible exact H) | (have H2_ := (Option.bind_some _ _).symm.trans H; rw [hyz3]; with_reducible exact H2_) | (have H2_ := (Option.bind_some _ _).symm.trans H; with_reducible exact H2_) | with_reducible exact H | (rw [hyz3]; exact H) | exact H
 have Nyz3 := am hyz3
 clear hyz3
 by_cases c3 : ([] : List (S74)).length + l0_3.length < 2932031007402
 rotate_left
 ·rw [if_neg c3] at H
  exact absurd H (by simp)
 rw [if_pos c3] at H
 have LMc3 := Aside0.mk c3
 clear c3
 obtain ⟨yz6, hyz6⟩ : ∃ y_ : List (S74), y_ = (([] : List (S74)) ++ l0_3) := ⟨_, rfl⟩
 replace H : (some (a0_0, a0_1, yz3, yz6, a0_4)) = some (r1, r2, r3, r4, r5) := by first | (rw [hyz6]; with_reducible exact H) | (have H2_ := (Option.bind_some _ _).symm.trans H; rw [hyz6]; with_reducible exact H2_) | (have H2_ := (Option.bind_some _ _).symm.trans H; with_reducible exact H2_) | with_reducible exact H | (rw [hyz6]; exact H) | exact H
 have Nyz6 := am hyz6
 clear hyz6
 simp only [Option.some.injEq, Prod.mk.injEq] at H
 obtain ⟨rfl, rfl, rfl, rfl, rfl⟩ := H
 go_enter Try.func53, Try.ntmps53
 try go_wp2_with (first | ((with_reducible refine gate_dst (N := 1) rfl ?_); refine box_event ?hg (N := 1) ?hd (cs := #[.string a0_0, .int .i64 a0_1, .slice A0_2 l0_2.length c0_2, .slice A0_3 l0_3.length c0_3, .bool a0_4]) (t := 50) ?hr ?_; (case hd => rfl); (case hg => rfl); (case hr => first | (go_simp; done) | (go_simp; rfl)); intro gbz1 hg w4 hbox hb; have n0_ := am (below_step (pb HB) hb); have n1_ := am (hbox); have n2_ := ge_ hg (pb HB); have n3_ := ge_ hg (pb HB); clear HB; have HB := n0_; have BKz1 := n1_; have GWz1 := n2_; have GEz1 := n3_; clear n0_ n1_ n2_ n3_; clear hb hbox hg) | ((with_reducible refine gate_dst (N := 2) rfl ?_); refine box_event ?hg (N := 2) ?hd (cs := #[.string (⟨#[]⟩ : ByteArray), .int .i64 0, .slice none 0 0, .slice none 0 0, .bool false]) (t := 50) ?hr ?_; (case hd => rfl); (case hg => rfl); (case hr => first | (go_simp; done) | (go_simp; rfl)); intro gbz2 hg w5 hbox hb; have n0_ := am (bkB (pk BKz1) hb); have n1_ := am (below_step (sC_ HB) hb); have n2_ := am (hbox); have n3_ := ge_ hg (sC_ HB); have n4_ := ge_ hg (sC_ HB); have n5_ := nl_ hg BKz1; have n6_ := ng_ hg BKz1; clear BKz1; clear HB; have BKz1 := n0_; have HB := n1_; have BKz2 := n2_; have GWz2 := n3_; have GEz2 := n4_; have NBz1_z2 := n5_; have NBz2_z1 := n6_; clear n0_ n1_ n2_ n3_ n4_ n5_ n6_; clear hb hbox hg))
 have n0_ := am (bkD BKz1.out)
 have n1_ := am (bkD BKz2.out)
 have n2_ := am (below_drew1 HB.out)
 clear BKz1 BKz2 HB; have BKz1 := n0_; have BKz2 := n1_; have HB := n2_; clear n0_ n1_ n2_
 refine start_ (n := 12) (S := fun w' => w'.cell? ⟨gbz1, 0, none⟩ = some (.string a0_0) ∧ w'.cell? ⟨gbz1, 1, none⟩ = some (.int .i64 a0_1) ∧ w'.cell? ⟨gbz1, 2, none⟩ = some (.slice A0_2 l0_2.length c0_2) ∧ w'.cell? ⟨gbz1, 3, none⟩ = some (.slice A0_3 l0_3.length c0_3) ∧ w'.cell? ⟨gbz1, 4, none⟩ = some (.bool a0_4)) (ds := []) #[false, false, false, false, false, false, false, false, false, false, false, false] (by kernel_rfl) rfl rfl (bc5 BKz1) (fun hHeld => ?_); refine with_tabW r8_Own.tab1 r8_Own.bits1 (fun HT_ HW_ => ?_)
 generalize w5.drew = w6 at BKz1 BKz2 HB hHeld ⊢
 refine pv_ 0 (some 3) HT_ ?_
 refine pv_ 2 (some 5) HT_ ?_
 refine pv_ 5 (some 8) HT_ ?_
 refine pv_ 8 (some 11) HT_ ?_
 refine tk_ 1 (some 4) HT_ HW_ rfl rfl (.inl ⟨by rfl, by rintro w' ⟨s0, s1, s2, s3, s4⟩; go_simp; with_reducible rfl⟩) hHeld (by simp only [Act.put, sa_, s0_, s1_, i64_w, i32_w]; rfl) ?_
 refine tk_ 3 (some 6) HT_ HW_ rfl rfl (.inl ⟨by rfl, by rintro w' ⟨s0, s1, s2, s3, s4⟩; go_simp; with_reducible rfl⟩) hHeld (by simp only [Act.put, sa_, s0_, s1_, i64_w, i32_w]; rfl) ?_
 refine tk_ 6 (some 9) HT_ HW_ rfl rfl (.inl ⟨by rfl, by rintro w' ⟨s0, s1, s2, s3, s4⟩; go_simp; with_reducible rfl⟩) hHeld (by simp only [Act.put, sa_, s0_, s1_, i64_w, i32_w]; rfl) ?_
 refine tk_ 9 (some 12) HT_ HW_ rfl rfl (.inl ⟨by rfl, by rintro w' ⟨s0, s1, s2, s3, s4⟩; go_simp; with_reducible rfl⟩) hHeld (by simp only [Act.put, sa_, s0_, s1_, i64_w, i32_w]; rfl) ?_
 refine on_ 4 (some 7) HT_ rfl rfl (fun K hK => ?_)
 refine Kd.R_append_rows_step k72 (w0 := w) w.heap.size rfl (.const (.slice none 0 0)) (.tmp 6) 47 72 (.agg #[(.string ⟨#[]⟩), (.string ⟨#[]⟩)]) 32 rfl Try.underlying47 info72 rfl (by decide) (by omega) (.slice none 0 0) ([] : List (S72)) l0_2 _ _ _ (fun _ => True) (fun _ => False) rfl rfl ?aO ?aR (fun _ _ h => h) (fun _ h => h.elim) ?aF ?aB ?aS ?aL ?_
 (case aR => repeat (first | exact (Kd.C_below HR0_2.out HB.out) | (with_reducible refine Kd.C_alloc ?_ _) | (with_reducible refine Kd.C_drewN ?_ _) | (with_reducible refine Kd.C_drew ?_)))
 (case aB => exact (sC_ HB))
 (case aF => exact (fun _ _ => trivial))
 (case aO => exact ((Kd.R_nil _ _ _ _ (fun _ => True))))
 (case aS => exact (below_size (sC_ HB)))
 (case aL => have := LMc2.out; omega)
 intro vz4 w7 ho hb hg hat
 rw [← Nyz3.out] at ho
 have n0_ := am (blk_grown (pk BKz1) hg (by simp [Value.ownBlock]))
 have n1_ := am (blk_grown (g := gbz2) (o := .cells #[.string (⟨#[]⟩ : ByteArray), .int .i64 0, .slice none 0 0, .slice none 0 0, .bool false] 50 (0, 0)) (pk BKz2) hg (by simp [Value.ownBlock]))
 have n2_ := am (hb)
 have n3_ := am (ho)
 clear BKz1 BKz2 HB; have BKz1 := n0_; have BKz2 := n1_; have HB := n2_; have HOz5 := n3_; clear n0_ n1_ n2_ n3_; clear ho hb hg hat
 refine hK.out _ _ (bc5 BKz1) (fun hHeld => ?_)
 clear hK K
 refine norm_ (by show Act.put _ (some 7) _ = _; simp only [Act.put, sa_, s0_, s1_, i64_w, i32_w]; rfl) ?_
 refine on_ 7 (some 10) HT_ rfl rfl (fun K hK => ?_)
 refine Kd.R_append_rows_step k74 (w0 := w) w.heap.size rfl (.const (.slice none 0 0)) (.tmp 9) 48 74 (.agg #[(.string ⟨#[]⟩), (.string ⟨#[]⟩), (.string ⟨#[]⟩)]) 48 rfl Try.underlying48 info74 rfl (by decide) (by omega) (.slice none 0 0) ([] : List (S74)) l0_3 _ _ _ (fun _ => True) (fun _ => False) rfl rfl ?aO ?aR (fun _ _ h => h) (fun _ h => h.elim) ?aF ?aB ?aS ?aL ?_
 (case aR => repeat (first | exact (Kd.C_below HR0_3.out HB.out) | (with_reducible refine Kd.C_alloc ?_ _) | (with_reducible refine Kd.C_drewN ?_ _) | (with_reducible refine Kd.C_drew ?_)))
 (case aB => exact (sC_ HB))
 (case aF => exact (fun _ _ => trivial))
 (case aO => exact ((Kd.R_nil _ _ _ _ (fun _ => True))))
 (case aS => exact (below_size (sC_ HB)))
 (case aL => have := LMc3.out; omega)
 intro vz7 w8 ho hb hg hat
 rw [← Nyz6.out] at ho
 have n0_ := am (blk_grown (pk BKz1) hg (by simp [Value.ownBlock]))
 have n1_ := am (blk_grown (g := gbz2) (o := .cells #[.string (⟨#[]⟩ : ByteArray), .int .i64 0, .slice none 0 0, .slice none 0 0, .bool false] 50 (0, 0)) (pk BKz2) hg (by simp [Value.ownBlock]))
 have n2_ := am (Kd.R_grown (pr HOz5) hg (fun _ _ => by simp [Value.ownBlock]))
 have n3_ := am (hb)
 have n4_ := am (ho)
 clear BKz1 BKz2 HOz5 HB; have BKz1 := n0_; have BKz2 := n1_; have HOz5 := n2_; have HB := n3_; have HOz8 := n4_; clear n0_ n1_ n2_ n3_ n4_; clear ho hb hg hat
 obtain ⟨Ao9, co9, eo9⟩ := Kd.R_slice HOz8.out
 (first | subst eo9 | (injection eo9 with f1_ f2_ f3_; have f4_ := f1_.symm; have f5_ := f3_.symm; clear f1_ f2_ f3_; subst f4_; subst f5_))
 obtain ⟨Ao10, co10, eo10⟩ := Kd.R_slice HOz5.out
 (first | subst eo10 | (injection eo10 with f1_ f2_ f3_; have f4_ := f1_.symm; have f5_ := f3_.symm; clear f1_ f2_ f3_; subst f4_; subst f5_))
 refine hK.out _ _ (bc5 BKz1) (fun hHeld => ?_)
 clear hK K
 refine norm_ (by show Act.put _ (some 10) _ = _; simp only [Act.put, sa_, s0_, s1_, i64_w, i32_w]; rfl) ?_
 refine pv_ 10 (some 13) HT_ ?_
 refine on_ 11 none HT_ rfl rfl (fun K hK => ?_)
 have hs11 : w8.cell? ⟨gbz2, 0, none⟩ = some (.string (⟨#[]⟩ : ByteArray)) := (blk_cell BKz2.out 0).trans rfl
 have hfs11 := blk_frozen BKz2.out 0
 have := NBz1_z2.out
 have := NBz2_z1.out
 have hs12 : w8.cell? ⟨gbz2, 1, none⟩ = some (.int .i64 0) := (blk_cell BKz2.out 1).trans rfl
 have hfs12 := blk_frozen BKz2.out 1
 have := NBz1_z2.out
 have := NBz2_z1.out
 have hs13 : w8.cell? ⟨gbz2, 2, none⟩ = some (.slice none 0 0) := (blk_cell BKz2.out 2).trans rfl
 have hfs13 := blk_frozen BKz2.out 2
 have := NBz1_z2.out
 have := NBz2_z1.out
 have hs14 : w8.cell? ⟨gbz2, 3, none⟩ = some (.slice none 0 0) := (blk_cell BKz2.out 3).trans rfl
 have hfs14 := blk_frozen BKz2.out 3
 have := NBz1_z2.out
 have := NBz2_z1.out
 have hs15 : w8.cell? ⟨gbz2, 4, none⟩ = some (.bool false) := (blk_cell BKz2.out 4).trans rfl
 have hfs15 := blk_frozen BKz2.out 4
 have := NBz1_z2.out
 have := NBz2_z1.out
 refine skip_ (by rfl) rfl (by go_simp; rfl) ?_
 refine hK.out _ _ ⟨((cf5 NBz1_z2).trans (hHeld.1)), ((cf5 NBz1_z2).trans (hHeld.2.1)), ((cf5 NBz1_z2).trans (hHeld.2.2.1)), ((cf5 NBz1_z2).trans (hHeld.2.2.2.1)), ((cf5 NBz1_z2).trans (hHeld.2.2.2.2))⟩ (fun hHeld => ?_)
 clear hK K
 refine done_ (done_of HT_.out (by kernel_rfl)) ?_
 try go_wp2
 refine bodyPost_ret (results_cell_row rfl _ _ gbz2 50 #[.string a0_0, .int .i64 a0_1, .slice Ao10 yz3.length co10, .slice Ao9 yz6.length co9, .bool a0_4] (0, 0) _ rfl (by (with_reducible repeat (first | refine blk_drewN ?_ _ | refine bkD ?_ | refine bkA ?_ _)); apply bp5; exact pk BKz2) Try.underlying50 rfl (by kernel_rfl)) rfl ?_
 exact ⟨_, _, by first | rfl | (simp <;> rfl) | (simp [*] <;> rfl), by (with_reducible repeat first | apply ra | apply rn | apply rd); exact Kd.R_mono (rf5 (Kd.R_types HOz5.out BKz2.out (by decide)) (fun _ hk => hk.2)) (fun _ hk => trivial), by (with_reducible repeat first | apply ra | apply rn | apply rd); exact Kd.R_mono (rf5 (Kd.R_types HOz8.out BKz2.out (by decide)) (fun _ hk => hk.2)) (fun _ hk => trivial), sC_ HB⟩
end Go.Proofs.Ytmkncddbecmlpaa.Pr
end
section
namespace Go.Proofs.Ytmkncddbecmlpaa.Pr
open Go.Proofs.Ytmkncddbecmlpaa.Sq Go.RowKit Go.Proofs.YtmkncddbecmlpaaW.PrintWords Go.Proofs.YtmkncddbecmlpaaW.PrintLast Go.Proofs.YtmkncddbecmlpaaW.PrintMore
attribute [local go_sem] max2_int min2_int max_two min_two max_three min_three max_four min_four
set_option linter.unusedVariables false
set_option linter.unusedSimpArgs false
mutual
def r8_clash.l0 : Nat → Int → ByteArray → Int → List (S72) → List (S74) → Bool → Option (Bool)
 | 0, _, _, _, _, _, _ => none
 | k + 1, x3, xz2000, xz2001, xz2002, xz2003, xz2004 => if x3 < (xz2002.length : Int) then (r8_clash.l1 k x3 0 xz2000 xz2001 xz2002 xz2003 xz2004) else (r8_clash.l2 k 0 xz2000 xz2001 xz2002 xz2003 xz2004)
def r8_clash.l1 : Nat → Int → Int → ByteArray → Int → List (S72) → List (S74) → Bool → Option (Bool)
 | 0, _, _, _, _, _, _, _ => none
 | k + 1, x3, x4, xz2000, xz2001, xz2002, xz2003, xz2004 => if x4 < x3 then (if 0 ≤ x3 then (if x3 < (xz2002.length : Int) then (if 0 ≤ x4 then (if x4 < (xz2002.length : Int) then (if ((rd_T72 xz2002 x3).f1).toList = ((rd_T72 xz2002 x4).f1).toList then (some true) else (r8_clash.l1 k x3 (wrap64 (x4 + 1)) xz2000 xz2001 xz2002 xz2003 xz2004)) else (none)) else (none)) else (none)) else (none)) else (r8_clash.l0 k (wrap64 (x3 + 1)) xz2000 xz2001 xz2002 xz2003 xz2004)
def r8_clash.l2 : Nat → Int → ByteArray → Int → List (S72) → List (S74) → Bool → Option (Bool)
 | 0, _, _, _, _, _, _ => none
 | k + 1, x5, xz2000, xz2001, xz2002, xz2003, xz2004 => if x5 < (xz2003.length : Int) then (r8_clash.l3 k x5 0 xz2000 xz2001 xz2002 xz2003 xz2004) else (some false)
def r8_clash.l3 : Nat → Int → Int → ByteArray → Int → List (S72) → List (S74) → Bool → Option (Bool)
 | 0, _, _, _, _, _, _, _ => none
 | k + 1, x5, x6, xz2000, xz2001, xz2002, xz2003, xz2004 => if x6 < x5 then (if 0 ≤ x5 then (if x5 < (xz2003.length : Int) then (if 0 ≤ x6 then (if x6 < (xz2003.length : Int) then (if ((rd_T74 xz2003 x5).f0).toList = ((rd_T74 xz2003 x6).f0).toList then (if ((rd_T74 xz2003 x5).f2).toList = ((rd_T74 xz2003 x6).f2).toList then (some true) else (r8_clash.l3 k x5 (wrap64 (x6 + 1)) xz2000 xz2001 xz2002 xz2003 xz2004)) else (r8_clash.l3 k x5 (wrap64 (x6 + 1)) xz2000 xz2001 xz2002 xz2003 xz2004)) else (none)) else (none)) else (none)) else (none)) else (r8_clash.l2 k (wrap64 (x5 + 1)) xz2000 xz2001 xz2002 xz2003 xz2004)
end
def r8_clash.f (k : Nat) (a0_0 : ByteArray) (a0_1 : Int) (l0_2 : List (S72)) (l0_3 : List (S74)) (a0_4 : Bool) : Option (Bool) := r8_clash.l0 k 0 a0_0 a0_1 l0_2 l0_3 a0_4
set_option maxHeartbeats 8000000 in
set_option maxRecDepth 100000 in
theorem r8_clash.calls (k : Nat) (a0_0 : ByteArray) (a0_1 : Int) (A0_2 : Option Addr) (c0_2 : Nat) (l0_2 : List (S72)) (A0_3 : Option Addr) (c0_3 : Nat) (l0_3 : List (S74)) (a0_4 : Bool) (r : Bool) (w : World) (hr0_2 : Kd.C k72 w A0_2 l0_2.length l0_2) (hc0_2 : l0_2.length ≤ c0_2) (hr0_3 : Kd.C k74 w A0_3 l0_3.length l0_3) (hc0_3 : l0_3.length ≤ c0_3) (h : r8_clash.f k a0_0 a0_1 l0_2 l0_3 a0_4 = some r) :
  Calls Try.prog 54 #[.agg #[.string a0_0, .int .i64 a0_1, .slice A0_2 l0_2.length c0_2, .slice A0_3 l0_3.length c0_3, .bool a0_4]] w fun e w' => e = .returned (.bool r) ∧ Below w.heap.size w w' := by
 have hu50 := Try.underlying50
 have HR0_2 := am hr0_2
 have HC0_2 := am hc0_2
 clear hr0_2 hc0_2
 have HR0_3 := am hr0_3
 have HC0_3 := am hc0_3
 clear hr0_3 hc0_3
 have HB := am (Below.refl w.heap.size w)
 have H : (r8_clash.l0 k 0 a0_0 a0_1 l0_2 l0_3 a0_4) = some r := h
 clear h
 have H' := am H
 clear H
 go_enter Try.func54, Try.ntmps54
 go_wp2_with (first | ((with_reducible refine gate_dst (N := 1) rfl ?_); refine box_event ?hg (N := 1) ?hd (cs := #[.string a0_0, .int .i64 a0_1, .slice A0_2 l0_2.length c0_2, .slice A0_3 l0_3.length c0_3, .bool a0_4]) (t := 50) ?hr ?_; (case hd => rfl); (case hg => rfl); (case hr => first | (go_simp; done) | (go_simp; rfl)); intro gbz1 hg w2 hbox hb; have n0_ := am (below_step (pb HB) hb); have n1_ := am (hbox); have n2_ := ge_ hg (pb HB); have n3_ := ge_ hg (pb HB); clear HB; have HB := n0_; have BKz1 := n1_; have GWz1 := n2_; have GEz1 := n3_; clear n0_ n1_ n2_ n3_; clear hb hbox hg))
 repeat (go_quiet (first | ((with_reducible refine gate_dst (N := 1) rfl ?_); refine box_event ?hg (N := 1) ?hd (cs := #[.string a0_0, .int .i64 a0_1, .slice A0_2 l0_2.length c0_2, .slice A0_3 l0_3.length c0_3, .bool a0_4]) (t := 50) ?hr ?_; (case hd => rfl); (case hg => rfl); (case hr => first | (go_simp; done) | (go_simp; rfl)); intro gbz1 hg w2 hbox hb; have n0_ := am (below_step (pb HB) hb); have n1_ := am (hbox); have n2_ := ge_ hg (pb HB); have n3_ := ge_ hg (pb HB); clear HB; have HB := n0_; have BKz1 := n1_; have GWz1 := n2_; have GEz1 := n3_; clear n0_ n1_ n2_ n3_; clear hb hbox hg)); try go_wp2_with (first | ((with_reducible refine gate_dst (N := 1) rfl ?_); refine box_event ?hg (N := 1) ?hd (cs := #[.string a0_0, .int .i64 a0_1, .slice A0_2 l0_2.length c0_2, .slice A0_3 l0_3.length c0_3, .bool a0_4]) (t := 50) ?hr ?_; (case hd => rfl); (case hg => rfl); (case hr => first | (go_simp; done) | (go_simp; rfl)); intro gbz1 hg w2 hbox hb; have n0_ := am (below_step (pb HB) hb); have n1_ := am (hbox); have n2_ := ge_ hg (pb HB); have n3_ := ge_ hg (pb HB); clear HB; have HB := n0_; have BKz1 := n1_; have GWz1 := n2_; have GEz1 := n3_; clear n0_ n1_ n2_ n3_; clear hb hbox hg)))
 go_loopg [3] k (fun kq v3 w' => ∃ (x3_1 : Int), v3 = .int .i64 x3_1 ∧ Aside0 (r8_clash.l0 kq x3_1 a0_0 a0_1 l0_2 l0_3 a0_4 = some r) ∧ Aside0 (kq ≤ k) ∧ Aside0 (w'.heap[gbz1]? = some (.cells #[.string a0_0, .int .i64 a0_1, (.slice A0_2 l0_2.length c0_2), (.slice A0_3 l0_3.length c0_3), .bool a0_4] 50 (0, 0))) ∧ Aside0 (Below w.heap.size w w'))
 case atStart => exact ⟨(0), (by first | rfl | (simp; done) | (simp [*]; done)), H', ⟨Nat.le_refl _⟩, (sk_ BKz1), (sB_ HB)⟩
 clear H'
 try clear p2
 obtain ⟨x3_1, rfl, HA, HK1, BKz1, HB⟩ := hrel
 cases gk with
 | zero => exact absurd HA.out (by simp [r8_clash.l0])
 | succ k1 => ?_
 have H := HA.out
 clear HA
 simp only [r8_clash.l0] at H
 by_cases c3 : x3_1 < (l0_2.length : Int)
 ·rw [if_pos c3] at H
  have c3b0 : decide (x3_1 < (l0_2.length : Int)) = true := decide_eq_true c3
  clear c3
  have H' := am H
  clear H
  obtain ⟨hcz4_0, hcz4_1, hcz4_2, hcz4_3, hcz4_4⟩ := bc5 BKz1
  obtain ⟨hfz4_0, hfz4_1, hfz4_2, hfz4_3, hfz4_4⟩ := bf5 BKz1
  go_wp2
  repeat (go_quiet (fail); try go_wp2)
  go_loopg [4] k1 (fun kq v4 w' => ∃ (x4_2 : Int), v4 = .int .i64 x4_2 ∧ Aside0 (r8_clash.l1 kq x3_1 x4_2 a0_0 a0_1 l0_2 l0_3 a0_4 = some r) ∧ Aside0 (kq ≤ k1) ∧ Aside0 (w'.heap[gbz1]? = some (.cells #[.string a0_0, .int .i64 a0_1, (.slice A0_2 l0_2.length c0_2), (.slice A0_3 l0_3.length c0_3), .bool a0_4] 50 (0, 0))) ∧ Aside0 (Below w.heap.size w w'))
  case atStart => exact ⟨(0), (by first | rfl | (simp; done) | (simp [*]; done)), H', ⟨Nat.le_refl _⟩, (sk_ BKz1), (sB_ HB)⟩
  clear H'
  try clear p2
  try clear c3
  try clear c3b0
  try clear hcz4_0
  try clear hcz4_1
  try clear hcz4_2
  try clear hcz4_3
  try clear hcz4_4
  try clear hfz4_0
  try clear hfz4_1
  try clear hfz4_2
  try clear hfz4_3
  try clear hfz4_4
  try clear p2
  obtain ⟨x4_2, rfl, HA, HK2, BKz1, HB⟩ := hrel
  cases gk with
  | zero => exact absurd HA.out (by simp [r8_clash.l1])
  | succ k2 => ?_
  have H := HA.out
  clear HA
  simp only [r8_clash.l1] at H
  by_cases c5 : x4_2 < x3_1
  rotate_left
  ·rw [if_neg c5] at H
   have c5b0 : decide (x4_2 < x3_1) = false := decide_eq_false c5
   clear c5
   have H' := am H
   clear H
   go_wp2
   repeat (go_quiet (fail); try go_wp2)
   go_roundg k2
   case measure => have := HK1.out; have := HK2.out; omega
   case rel => exact ⟨(wrap64 (x3_1 + 1)), (by first | rfl | (simp; done) | (simp [*]; done)), H', ⟨by have := HK1.out; have := HK2.out; omega⟩, (sk_ BKz1), (sB_ HB)⟩
  rw [if_pos c5] at H
  have c5b0 : decide (x4_2 < x3_1) = true := decide_eq_true c5
  clear c5
  by_cases c6 : 0 ≤ x3_1
  rotate_left
  ·rw [if_neg c6] at H
   exact absurd H (by simp)
  rw [if_pos c6] at H
  have c6b0 : decide (0 ≤ x3_1) = true := decide_eq_true c6
  clear c6
  by_cases c7 : x3_1 < (l0_2.length : Int)
  rotate_left
  ·rw [if_neg c7] at H
   exact absurd H (by simp)
  rw [if_pos c7] at H
  have c7b0 : decide (x3_1 < (l0_2.length : Int)) = true := decide_eq_true c7
  clear c7
  by_cases c8 : 0 ≤ x4_2
  rotate_left
  ·rw [if_neg c8] at H
   exact absurd H (by simp)
  rw [if_pos c8] at H
  have c8b0 : decide (0 ≤ x4_2) = true := decide_eq_true c8
  clear c8
  by_cases c9 : x4_2 < (l0_2.length : Int)
  rotate_left
  ·rw [if_neg c9] at H
   exact absurd H (by simp)
  rw [if_pos c9] at H
  have c9b0 : decide (x4_2 < (l0_2.length : Int)) = true := decide_eq_true c9
  clear c9
  by_cases c10 : ((rd_T72 l0_2 x3_1).f1).toList = ((rd_T72 l0_2 x4_2).f1).toList
  ·rw [if_pos c10] at H
   have c10b0 : (((rd_T72 l0_2 x3_1).f1).toList == ((rd_T72 l0_2 x4_2).f1).toList) = true := beq_iff_eq.mpr c10
   have c10b1 : (((rd_T72 l0_2 x3_1).f1).toList != ((rd_T72 l0_2 x4_2).f1).toList) = false := bne_eq_false_iff_eq.mpr c10
   clear c10
   obtain rfl := Option.some.inj H
   obtain ⟨hcz11_0, hcz11_1, hcz11_2, hcz11_3, hcz11_4⟩ := bc5 BKz1
   obtain ⟨hfz11_0, hfz11_1, hfz11_2, hfz11_3, hfz11_4⟩ := bf5 BKz1
   have pz2 : 0 ≤ (x3_1 : Int) := of_decide_eq_true (by first | (with_reducible assumption) | assumption)
   have qz2 : x3_1 < (l0_2.length : Int) := of_decide_eq_true (by first | (with_reducible assumption) | assumption)
   obtain ⟨adz2, ez2, hxz2_0, hxz2_1⟩ := at_T72 HR0_2.out x3_1 pz2 qz2
   cases ez2
   replace hxz2_0 := (HB.out.cell (World.block_lt_of_cell? w _ hxz2_0)).trans hxz2_0
   replace hxz2_1 := (HB.out.cell (World.block_lt_of_cell? w _ hxz2_1)).trans hxz2_1
   replace pz2 := eq_true pz2
   replace qz2 := eq_true qz2
   have pz3 : 0 ≤ (x4_2 : Int) := of_decide_eq_true (by first | (with_reducible assumption) | assumption)
   have qz3 : x4_2 < (l0_2.length : Int) := of_decide_eq_true (by first | (with_reducible assumption) | assumption)
   obtain ⟨adz3, ez3, hxz3_0, hxz3_1⟩ := at_T72 HR0_2.out x4_2 pz3 qz3
   obtain rfl : adz2 = adz3 := (by injection ez3)
   replace hxz3_0 := (HB.out.cell (World.block_lt_of_cell? w _ hxz3_0)).trans hxz3_0
   replace hxz3_1 := (HB.out.cell (World.block_lt_of_cell? w _ hxz3_1)).trans hxz3_1
   replace pz3 := eq_true pz3
   replace qz3 := eq_true qz3
   go_wp2
   repeat (go_quiet (fail); try go_wp2)
   go_ret
   exact ⟨by first | rfl | (simp <;> rfl) | (simp [*] <;> rfl), sC_ HB⟩
  rw [if_neg c10] at H
  have c10b0 : (((rd_T72 l0_2 x3_1).f1).toList == ((rd_T72 l0_2 x4_2).f1).toList) = false := beq_eq_false_iff_ne.mpr c10
  have c10b1 : (((rd_T72 l0_2 x3_1).f1).toList != ((rd_T72 l0_2 x4_2).f1).toList) = true := bne_iff_ne.mpr c10
  have H' := am H
  clear H
  obtain ⟨hcz12_0, hcz12_1, hcz12_2, hcz12_3, hcz12_4⟩ := bc5 BKz1
  obtain ⟨hfz12_0, hfz12_1, hfz12_2, hfz12_3, hfz12_4⟩ := bf5 BKz1
  have pz2 : 0 ≤ (x3_1 : Int) := of_decide_eq_true (by first | (with_reducible assumption) | assumption)
  have qz2 : x3_1 < (l0_2.length : Int) := of_decide_eq_true (by first | (with_reducible assumption) | assumption)
  obtain ⟨adz2, ez2, hxz2_0, hxz2_1⟩ := at_T72 HR0_2.out x3_1 pz2 qz2
  cases ez2
  replace hxz2_0 := (HB.out.cell (World.block_lt_of_cell? w _ hxz2_0)).trans hxz2_0
  replace hxz2_1 := (HB.out.cell (World.block_lt_of_cell? w _ hxz2_1)).trans hxz2_1
  replace pz2 := eq_true pz2
  replace qz2 := eq_true qz2
  have pz3 : 0 ≤ (x4_2 : Int) := of_decide_eq_true (by first | (with_reducible assumption) | assumption)
  have qz3 : x4_2 < (l0_2.length : Int) := of_decide_eq_true (by first | (with_reducible assumption) | assumption)
  obtain ⟨adz3, ez3, hxz3_0, hxz3_1⟩ := at_T72 HR0_2.out x4_2 pz3 qz3
  obtain rfl : adz2 = adz3 := (by injection ez3)
  replace hxz3_0 := (HB.out.cell (World.block_lt_of_cell? w _ hxz3_0)).trans hxz3_0
  replace hxz3_1 := (HB.out.cell (World.block_lt_of_cell? w _ hxz3_1)).trans hxz3_1
  replace pz3 := eq_true pz3
  replace qz3 := eq_true qz3
  go_wp2
  repeat (go_quiet (fail); try go_wp2)
  go_roundg k2
  case measure => have := HK1.out; have := HK2.out; omega
  case rel => exact ⟨(wrap64 (x4_2 + 1)), (by first | rfl | (simp; done) | (simp [*]; done)), H', ⟨by have := HK1.out; have := HK2.out; omega⟩, (sk_ BKz1), (sB_ HB)⟩
 rw [if_neg c3] at H
 have c3b0 : decide (x3_1 < (l0_2.length : Int)) = false := decide_eq_false c3
 clear c3
 have H' := am H
 clear H
 obtain ⟨hcz13_0, hcz13_1, hcz13_2, hcz13_3, hcz13_4⟩ := bc5 BKz1
 obtain ⟨hfz13_0, hfz13_1, hfz13_2, hfz13_3, hfz13_4⟩ := bf5 BKz1
 go_wp2
 repeat (go_quiet (fail); try go_wp2)
 go_loopg [5] k1 (fun kq v5 w' => ∃ (x5_2 : Int), v5 = .int .i64 x5_2 ∧ Aside0 (r8_clash.l2 kq x5_2 a0_0 a0_1 l0_2 l0_3 a0_4 = some r) ∧ Aside0 (kq ≤ k1) ∧ Aside0 (w'.heap[gbz1]? = some (.cells #[.string a0_0, .int .i64 a0_1, (.slice A0_2 l0_2.length c0_2), (.slice A0_3 l0_3.length c0_3), .bool a0_4] 50 (0, 0))) ∧ Aside0 (Below w.heap.size w w'))
 case atStart => exact ⟨(0), (by first | rfl | (simp; done) | (simp [*]; done)), H', ⟨Nat.le_refl _⟩, (sk_ BKz1), (sB_ HB)⟩
 clear H'
 try clear c1
 try clear p2
 try clear c3
 try clear c3b0
 try clear c5
 try clear c5b0
 try clear p5
 try clear q5
 try clear hx5
 try clear c6
 try clear c6b0
 try clear p6
 try clear c7
 try clear c7b0
 try clear c8
 try clear c8b0
 try clear c9
 try clear c9b0
 try clear c10
 try clear c10b0
 try clear c10b1
 try clear hcz11_0
 try clear hcz11_1
 try clear hcz11_2
 try clear hcz11_3
 try clear hcz11_4
 try clear hcz12_0
 try clear hcz12_1
 try clear hcz12_2
 try clear hcz12_3
 try clear hcz12_4
 try clear hcz13_0
 try clear hcz13_1
 try clear hcz13_2
 try clear hcz13_3
 try clear hcz13_4
 try clear hcz4_0
 try clear hcz4_1
 try clear hcz4_2
 try clear hcz4_3
 try clear hcz4_4
 try clear hfz11_0
 try clear hfz11_1
 try clear hfz11_2
 try clear hfz11_3
 try clear hfz11_4
 try clear hfz12_0
 try clear hfz12_1
 try clear hfz12_2
 try clear hfz12_3
 try clear hfz12_4
 try clear hfz13_0
 try clear hfz13_1
 try clear hfz13_2
 try clear hfz13_3
 try clear hfz13_4
 try clear hfz4_0
 try clear hfz4_1
 try clear hfz4_2
 try clear hfz4_3
 try clear hfz4_4
 try clear hxz2_0
 try clear hxz2_1
 try clear hxz3_0
 try clear hxz3_1
 try clear p2
 try clear pz2
 try clear pz3
 try clear qz2
 try clear qz3
 obtain ⟨x5_2, rfl, HA, HK2, BKz1, HB⟩ := hrel
 cases gk with
 | zero => exact absurd HA.out (by simp [r8_clash.l2])
 | succ k2 => ?_
 have H := HA.out
 clear HA
 simp only [r8_clash.l2] at H
 by_cases c14 : x5_2 < (l0_3.length : Int)
 rotate_left
 ·rw [if_neg c14] at H
  have c14b0 : decide (x5_2 < (l0_3.length : Int)) = false := decide_eq_false c14
  clear c14
  obtain rfl := Option.some.inj H
  obtain ⟨hcz26_0, hcz26_1, hcz26_2, hcz26_3, hcz26_4⟩ := bc5 BKz1
  obtain ⟨hfz26_0, hfz26_1, hfz26_2, hfz26_3, hfz26_4⟩ := bf5 BKz1
  go_wp2
  repeat (go_quiet (fail); try go_wp2)
  go_ret
  exact ⟨by first | rfl | (simp <;> rfl) | (simp [*] <;> rfl), sC_ HB⟩
 rw [if_pos c14] at H
 have c14b0 : decide (x5_2 < (l0_3.length : Int)) = true := decide_eq_true c14
 clear c14
 have H' := am H
 clear H
 obtain ⟨hcz15_0, hcz15_1, hcz15_2, hcz15_3, hcz15_4⟩ := bc5 BKz1
 obtain ⟨hfz15_0, hfz15_1, hfz15_2, hfz15_3, hfz15_4⟩ := bf5 BKz1
 go_wp2
 repeat (go_quiet (fail); try go_wp2)
 go_loopg [6] k2 (fun kq v6 w' => ∃ (x6_3 : Int), v6 = .int .i64 x6_3 ∧ Aside0 (r8_clash.l3 kq x5_2 x6_3 a0_0 a0_1 l0_2 l0_3 a0_4 = some r) ∧ Aside0 (kq ≤ k2) ∧ Aside0 (w'.heap[gbz1]? = some (.cells #[.string a0_0, .int .i64 a0_1, (.slice A0_2 l0_2.length c0_2), (.slice A0_3 l0_3.length c0_3), .bool a0_4] 50 (0, 0))) ∧ Aside0 (Below w.heap.size w w'))
 case atStart => exact ⟨(0), (by first | rfl | (simp; done) | (simp [*]; done)), H', ⟨Nat.le_refl _⟩, (sk_ BKz1), (sB_ HB)⟩
 clear H'
 try clear c1
 try clear p2
 try clear c3
 try clear c3b0
 try clear c5
 try clear c5b0
 try clear p5
 try clear q5
 try clear hx5
 try clear c6
 try clear c6b0
 try clear p6
 try clear c7
 try clear c7b0
 try clear c8
 try clear c8b0
 try clear c9
 try clear c9b0
 try clear c10
 try clear c10b0
 try clear c10b1
 try clear c14
 try clear c14b0
 try clear hcz11_0
 try clear hcz11_1
 try clear hcz11_2
 try clear hcz11_3
 try clear hcz11_4
 try clear hcz12_0
 try clear hcz12_1
 try clear hcz12_2
 try clear hcz12_3
 try clear hcz12_4
 try clear hcz13_0
 try clear hcz13_1
 try clear hcz13_2
 try clear hcz13_3
 try clear hcz13_4
 try clear hcz15_0
 try clear hcz15_1
 try clear hcz15_2
 try clear hcz15_3
 try clear hcz15_4
 try clear hcz4_0
 try clear hcz4_1
 try clear hcz4_2
 try clear hcz4_3
 try clear hcz4_4
 try clear hfz11_0
 try clear hfz11_1
 try clear hfz11_2
 try clear hfz11_3
 try clear hfz11_4
 try clear hfz12_0
 try clear hfz12_1
 try clear hfz12_2
 try clear hfz12_3
 try clear hfz12_4
 try clear hfz13_0
 try clear hfz13_1
 try clear hfz13_2
 try clear hfz13_3
 try clear hfz13_4
 try clear hfz15_0
 try clear hfz15_1
 try clear hfz15_2
 try clear hfz15_3
 try clear hfz15_4
 try clear hfz4_0
 try clear hfz4_1
 try clear hfz4_2
 try clear hfz4_3
 try clear hfz4_4
 try clear hxz2_0
 try clear hxz2_1
 try clear hxz3_0
 try clear hxz3_1
 try clear p2
 try clear p5
 try clear pz2
 try clear pz3
 try clear p6
 try clear q5
 try clear qz2
 try clear qz3
 obtain ⟨x6_3, rfl, HA, HK3, BKz1, HB⟩ := hrel
 cases gk with
 | zero => exact absurd HA.out (by simp [r8_clash.l3])
 | succ k3 => ?_
 have H := HA.out
 clear HA
 simp only [r8_clash.l3] at H
 by_cases c16 : x6_3 < x5_2
 rotate_left
 ·rw [if_neg c16] at H
  have c16b0 : decide (x6_3 < x5_2) = false := decide_eq_false c16
  clear c16
  have H' := am H
  clear H
  go_wp2
  repeat (go_quiet (fail); try go_wp2)
  go_roundg k3
  case measure => have := HK1.out; have := HK2.out; have := HK3.out; omega
  case rel => exact ⟨(wrap64 (x5_2 + 1)), (by first | rfl | (simp; done) | (simp [*]; done)), H', ⟨by have := HK1.out; have := HK2.out; have := HK3.out; omega⟩, (sk_ BKz1), (sB_ HB)⟩
 rw [if_pos c16] at H
 have c16b0 : decide (x6_3 < x5_2) = true := decide_eq_true c16
 clear c16
 by_cases c17 : 0 ≤ x5_2
 rotate_left
 ·rw [if_neg c17] at H
  exact absurd H (by simp)
 rw [if_pos c17] at H
 have c17b0 : decide (0 ≤ x5_2) = true := decide_eq_true c17
 clear c17
 by_cases c18 : x5_2 < (l0_3.length : Int)
 rotate_left
 ·rw [if_neg c18] at H
  exact absurd H (by simp)
 rw [if_pos c18] at H
 have c18b0 : decide (x5_2 < (l0_3.length : Int)) = true := decide_eq_true c18
 clear c18
 by_cases c19 : 0 ≤ x6_3
 rotate_left
 ·rw [if_neg c19] at H
  exact absurd H (by simp)
 rw [if_pos c19] at H
 have c19b0 : decide (0 ≤ x6_3) = true := decide_eq_true c19
 clear c19
 by_cases c20 : x6_3 < (l0_3.length : Int)
 rotate_left
 ·rw [if_neg c20] at H
  exact absurd H (by simp)
 rw [if_pos c20] at H
 have c20b0 : decide (x6_3 < (l0_3.length : Int)) = true := decide_eq_true c20
 clear c20
 by_cases c21 : ((rd_T74 l0_3 x5_2).f0).toList = ((rd_T74 l0_3 x6_3).f0).toList
 rotate_left
 ·rw [if_neg c21] at H
  have c21b0 : (((rd_T74 l0_3 x5_2).f0).toList == ((rd_T74 l0_3 x6_3).f0).toList) = false := beq_eq_false_iff_ne.mpr c21
  have c21b1 : (((rd_T74 l0_3 x5_2).f0).toList != ((rd_T74 l0_3 x6_3).f0).toList) = true := bne_iff_ne.mpr c21
  have H' := am H
  clear H
  obtain ⟨hcz25_0, hcz25_1, hcz25_2, hcz25_3, hcz25_4⟩ := bc5 BKz1
  obtain ⟨hfz25_0, hfz25_1, hfz25_2, hfz25_3, hfz25_4⟩ := bf5 BKz1
  have pz4 : 0 ≤ (x5_2 : Int) := of_decide_eq_true (by first | (with_reducible assumption) | assumption)
  have qz4 : x5_2 < (l0_3.length : Int) := of_decide_eq_true (by first | (with_reducible assumption) | assumption)
  obtain ⟨adz4, ez4, hxz4_0, hxz4_1, hxz4_2⟩ := at_T74 HR0_3.out x5_2 pz4 qz4
  cases ez4
  replace hxz4_0 := (HB.out.cell (World.block_lt_of_cell? w _ hxz4_0)).trans hxz4_0
  replace hxz4_1 := (HB.out.cell (World.block_lt_of_cell? w _ hxz4_1)).trans hxz4_1
  replace hxz4_2 := (HB.out.cell (World.block_lt_of_cell? w _ hxz4_2)).trans hxz4_2
  replace pz4 := eq_true pz4
  replace qz4 := eq_true qz4
  have pz5 : 0 ≤ (x6_3 : Int) := of_decide_eq_true (by first | (with_reducible assumption) | assumption)
  have qz5 : x6_3 < (l0_3.length : Int) := of_decide_eq_true (by first | (with_reducible assumption) | assumption)
  obtain ⟨adz5, ez5, hxz5_0, hxz5_1, hxz5_2⟩ := at_T74 HR0_3.out x6_3 pz5 qz5
  obtain rfl : adz4 = adz5 := (by injection ez5)
  replace hxz5_0 := (HB.out.cell (World.block_lt_of_cell? w _ hxz5_0)).trans hxz5_0
  replace hxz5_1 := (HB.out.cell (World.block_lt_of_cell? w _ hxz5_1)).trans hxz5_1
  replace hxz5_2 := (HB.out.cell (World.block_lt_of_cell? w _ hxz5_2)).trans hxz5_2
  replace pz5 := eq_true pz5
  replace qz5 := eq_true qz5
  go_wp2
  repeat (go_quiet (fail); try go_wp2)
  go_roundg k3
  case measure => have := HK1.out; have := HK2.out; have := HK3.out; omega
  case rel => exact ⟨(wrap64 (x6_3 + 1)), (by first | rfl | (simp; done) | (simp [*]; done)), H', ⟨by have := HK1.out; have := HK2.out; have := HK3.out; omega⟩, (sk_ BKz1), (sB_ HB)⟩
 rw [if_pos c21] at H
 have c21b0 : (((rd_T74 l0_3 x5_2).f0).toList == ((rd_T74 l0_3 x6_3).f0).toList) = true := beq_iff_eq.mpr c21
 have c21b1 : (((rd_T74 l0_3 x5_2).f0).toList != ((rd_T74 l0_3 x6_3).f0).toList) = false := bne_eq_false_iff_eq.mpr c21
 clear c21
 by_cases c22 : ((rd_T74 l0_3 x5_2).f2).toList = ((rd_T74 l0_3 x6_3).f2).toList
 ·rw [if_pos c22] at H
  have c22b0 : (((rd_T74 l0_3 x5_2).f2).toList == ((rd_T74 l0_3 x6_3).f2).toList) = true := beq_iff_eq.mpr c22
  have c22b1 : (((rd_T74 l0_3 x5_2).f2).toList != ((rd_T74 l0_3 x6_3).f2).toList) = false := bne_eq_false_iff_eq.mpr c22
  clear c22
  obtain rfl := Option.some.inj H
  obtain ⟨hcz23_0, hcz23_1, hcz23_2, hcz23_3, hcz23_4⟩ := bc5 BKz1
  obtain ⟨hfz23_0, hfz23_1, hfz23_2, hfz23_3, hfz23_4⟩ := bf5 BKz1
  have pz4 : 0 ≤ (x5_2 : Int) := of_decide_eq_true (by first | (with_reducible assumption) | assumption)
  have qz4 : x5_2 < (l0_3.length : Int) := of_decide_eq_true (by first | (with_reducible assumption) | assumption)
  obtain ⟨adz4, ez4, hxz4_0, hxz4_1, hxz4_2⟩ := at_T74 HR0_3.out x5_2 pz4 qz4
  cases ez4
  replace hxz4_0 := (HB.out.cell (World.block_lt_of_cell? w _ hxz4_0)).trans hxz4_0
  replace hxz4_1 := (HB.out.cell (World.block_lt_of_cell? w _ hxz4_1)).trans hxz4_1
  replace hxz4_2 := (HB.out.cell (World.block_lt_of_cell? w _ hxz4_2)).trans hxz4_2
  replace pz4 := eq_true pz4
  replace qz4 := eq_true qz4
  have pz5 : 0 ≤ (x6_3 : Int) := of_decide_eq_true (by first | (with_reducible assumption) | assumption)
  have qz5 : x6_3 < (l0_3.length : Int) := of_decide_eq_true (by first | (with_reducible assumption) | assumption)
  obtain ⟨adz5, ez5, hxz5_0, hxz5_1, hxz5_2⟩ := at_T74 HR0_3.out x6_3 pz5 qz5
  obtain rfl : adz4 = adz5 := (by injection ez5)
  replace hxz5_0 := (HB.out.cell (World.block_lt_of_cell? w _ hxz5_0)).trans hxz5_0
  replace hxz5_1 := (HB.out.cell (World.block_lt_of_cell? w _ hxz5_1)).trans hxz5_1
  replace hxz5_2 := (HB.out.cell (World.block_lt_of_cell? w _ hxz5_2)).trans hxz5_2
  replace pz5 := eq_true pz5
  replace qz5 := eq_true qz5
  have pz6 : 0 ≤ (x5_2 : Int) := of_decide_eq_true (by first | (with_reducible assumption) | assumption)
  have qz6 : x5_2 < (l0_3.length : Int) := of_decide_eq_true (by first | (with_reducible assumption) | assumption)
  obtain ⟨adz6, ez6, hxz6_0, hxz6_1, hxz6_2⟩ := at_T74 HR0_3.out x5_2 pz6 qz6
  obtain rfl : adz4 = adz6 := (by injection ez6)
  replace hxz6_0 := (HB.out.cell (World.block_lt_of_cell? w _ hxz6_0)).trans hxz6_0
  replace hxz6_1 := (HB.out.cell (World.block_lt_of_cell? w _ hxz6_1)).trans hxz6_1
  replace hxz6_2 := (HB.out.cell (World.block_lt_of_cell? w _ hxz6_2)).trans hxz6_2
  replace pz6 := eq_true pz6
  replace qz6 := eq_true qz6
  have pz7 : 0 ≤ (x6_3 : Int) := of_decide_eq_true (by first | (with_reducible assumption) | assumption)
  have qz7 : x6_3 < (l0_3.length : Int) := of_decide_eq_true (by first | (with_reducible assumption) | assumption)
  obtain ⟨adz7, ez7, hxz7_0, hxz7_1, hxz7_2⟩ := at_T74 HR0_3.out x6_3 pz7 qz7
  obtain rfl : adz4 = adz7 := (by injection ez7)
  replace hxz7_0 := (HB.out.cell (World.block_lt_of_cell? w _ hxz7_0)).trans hxz7_0
  replace hxz7_1 := (HB.out.cell (World.block_lt_of_cell? w _ hxz7_1)).trans hxz7_1
  replace hxz7_2 := (HB.out.cell (World.block_lt_of_cell? w _ hxz7_2)).trans hxz7_2
  replace pz7 := eq_true pz7
  replace qz7 := eq_true qz7
  go_wp2
  repeat (go_quiet (fail); try go_wp2)
  go_ret
  exact ⟨by first | rfl | (simp <;> rfl) | (simp [*] <;> rfl), sC_ HB⟩
 rw [if_neg c22] at H
 have c22b0 : (((rd_T74 l0_3 x5_2).f2).toList == ((rd_T74 l0_3 x6_3).f2).toList) = false := beq_eq_false_iff_ne.mpr c22
 have c22b1 : (((rd_T74 l0_3 x5_2).f2).toList != ((rd_T74 l0_3 x6_3).f2).toList) = true := bne_iff_ne.mpr c22
 have H' := am H
 clear H
 obtain ⟨hcz24_0, hcz24_1, hcz24_2, hcz24_3, hcz24_4⟩ := bc5 BKz1
 obtain ⟨hfz24_0, hfz24_1, hfz24_2, hfz24_3, hfz24_4⟩ := bf5 BKz1
 have pz4 : 0 ≤ (x5_2 : Int) := of_decide_eq_true (by first | (with_reducible assumption) | assumption)
 have qz4 : x5_2 < (l0_3.length : Int) := of_decide_eq_true (by first | (with_reducible assumption) | assumption)
 obtain ⟨adz4, ez4, hxz4_0, hxz4_1, hxz4_2⟩ := at_T74 HR0_3.out x5_2 pz4 qz4
 cases ez4
 replace hxz4_0 := (HB.out.cell (World.block_lt_of_cell? w _ hxz4_0)).trans hxz4_0
 replace hxz4_1 := (HB.out.cell (World.block_lt_of_cell? w _ hxz4_1)).trans hxz4_1
 replace hxz4_2 := (HB.out.cell (World.block_lt_of_cell? w _ hxz4_2)).trans hxz4_2
 replace pz4 := eq_true pz4
 replace qz4 := eq_true qz4
 have pz5 : 0 ≤ (x6_3 : Int) := of_decide_eq_true (by first | (with_reducible assumption) | assumption)
 have qz5 : x6_3 < (l0_3.length : Int) := of_decide_eq_true (by first | (with_reducible assumption) | assumption)
 obtain ⟨adz5, ez5, hxz5_0, hxz5_1, hxz5_2⟩ := at_T74 HR0_3.out x6_3 pz5 qz5
 obtain rfl : adz4 = adz5 := (by injection ez5)
 replace hxz5_0 := (HB.out.cell (World.block_lt_of_cell? w _ hxz5_0)).trans hxz5_0
 replace hxz5_1 := (HB.out.cell (World.block_lt_of_cell? w _ hxz5_1)).trans hxz5_1
 replace hxz5_2 := (HB.out.cell (World.block_lt_of_cell? w _ hxz5_2)).trans hxz5_2
 replace pz5 := eq_true pz5
 replace qz5 := eq_true qz5
 have pz6 : 0 ≤ (x5_2 : Int) := of_decide_eq_true (by first | (with_reducible assumption) | assumption)
 have qz6 : x5_2 < (l0_3.length : Int) := of_decide_eq_true (by first | (with_reducible assumption) | assumption)
 obtain ⟨adz6, ez6, hxz6_0, hxz6_1, hxz6_2⟩ := at_T74 HR0_3.out x5_2 pz6 qz6
 obtain rfl : adz4 = adz6 := (by injection ez6)
 replace hxz6_0 := (HB.out.cell (World.block_lt_of_cell? w _ hxz6_0)).trans hxz6_0
 replace hxz6_1 := (HB.out.cell (World.block_lt_of_cell? w _ hxz6_1)).trans hxz6_1
 replace hxz6_2 := (HB.out.cell (World.block_lt_of_cell? w _ hxz6_2)).trans hxz6_2
 replace pz6 := eq_true pz6
 replace qz6 := eq_true qz6
 have pz7 : 0 ≤ (x6_3 : Int) := of_decide_eq_true (by first | (with_reducible assumption) | assumption)
 have qz7 : x6_3 < (l0_3.length : Int) := of_decide_eq_true (by first | (with_reducible assumption) | assumption)
 obtain ⟨adz7, ez7, hxz7_0, hxz7_1, hxz7_2⟩ := at_T74 HR0_3.out x6_3 pz7 qz7
 obtain rfl : adz4 = adz7 := (by injection ez7)
 replace hxz7_0 := (HB.out.cell (World.block_lt_of_cell? w _ hxz7_0)).trans hxz7_0
 replace hxz7_1 := (HB.out.cell (World.block_lt_of_cell? w _ hxz7_1)).trans hxz7_1
 replace hxz7_2 := (HB.out.cell (World.block_lt_of_cell? w _ hxz7_2)).trans hxz7_2
 replace pz7 := eq_true pz7
 replace qz7 := eq_true qz7
 go_wp2
 repeat (go_quiet (fail); try go_wp2)
 go_roundg k3
 case measure => have := HK1.out; have := HK2.out; have := HK3.out; omega
 case rel => exact ⟨(wrap64 (x6_3 + 1)), (by first | rfl | (simp; done) | (simp [*]; done)), H', ⟨by have := HK1.out; have := HK2.out; have := HK3.out; omega⟩, (sk_ BKz1), (sB_ HB)⟩
end Go.Proofs.Ytmkncddbecmlpaa.Pr
end
section
namespace Go.Proofs.Ytmkncddbecmlpaa.Pr
open Go.Proofs.Ytmkncddbecmlpaa.Sq Go.RowKit Go.Proofs.YtmkncddbecmlpaaW.PrintWords Go.Proofs.YtmkncddbecmlpaaW.PrintLast Go.Proofs.YtmkncddbecmlpaaW.PrintMore
attribute [local go_sem] max2_int min2_int max_two min_two max_three min_three max_four min_four
set_option linter.unusedVariables false
set_option linter.unusedSimpArgs false
mutual
def r8_Right.j0 : Nat → Bool → ByteArray → Int → List (S72) → List (S74) → Bool → Option (Bool)
 | 0, _, _, _, _, _, _ => none
 | k + 1, x23, xz2000, xz2001, xz2002, xz2003, xz2004 => if x23 = true then (some false) else (r8_Right.l0 k 0 xz2000 xz2001 xz2002 xz2003 xz2004)
def r8_Right.l0 : Nat → Int → ByteArray → Int → List (S72) → List (S74) → Bool → Option (Bool)
 | 0, _, _, _, _, _, _ => none
 | k + 1, x3, xz2000, xz2001, xz2002, xz2003, xz2004 => if x3 < (xz2002.length : Int) then (if 0 ≤ x3 then (if (((rd_T72 xz2002 x3).f0).size : Int) > 100 then (r8_Right.j2 k x3 true xz2000 xz2001 xz2002 xz2003 xz2004) else (r8_Right.j2 k x3 ((((rd_T72 xz2002 x3).f1).size : Int) != 16) xz2000 xz2001 xz2002 xz2003 xz2004)) else (none)) else (r8_Right.l2 k 0 xz2000 xz2001 xz2002 xz2003 xz2004)
def r8_Right.j2 : Nat → Int → Bool → ByteArray → Int → List (S72) → List (S74) → Bool → Option (Bool)
 | 0, _, _, _, _, _, _, _ => none
 | k + 1, x3, x48, xz2000, xz2001, xz2002, xz2003, xz2004 => if x48 = true then (some false) else (r8_Right.l1 k x3 0 xz2000 xz2001 xz2002 xz2003 xz2004)
def r8_Right.l1 : Nat → Int → Int → ByteArray → Int → List (S72) → List (S74) → Bool → Option (Bool)
 | 0, _, _, _, _, _, _, _ => none
 | k + 1, x3, x4, xz2000, xz2001, xz2002, xz2003, xz2004 => if x4 < x3 then (if 0 ≤ x3 then (if x3 < (xz2002.length : Int) then (if 0 ≤ x4 then (if x4 < (xz2002.length : Int) then (if ((rd_T72 xz2002 x3).f0).toList = ((rd_T72 xz2002 x4).f0).toList then (some false) else (r8_Right.l1 k x3 (wrap64 (x4 + 1)) xz2000 xz2001 xz2002 xz2003 xz2004)) else (none)) else (none)) else (none)) else (none)) else (r8_Right.l0 k (wrap64 (x3 + 1)) xz2000 xz2001 xz2002 xz2003 xz2004)
def r8_Right.l2 : Nat → Int → ByteArray → Int → List (S72) → List (S74) → Bool → Option (Bool)
 | 0, _, _, _, _, _, _ => none
 | k + 1, x5, xz2000, xz2001, xz2002, xz2003, xz2004 => if x5 < (xz2003.length : Int) then (if 0 ≤ x5 then (if (((rd_T74 xz2003 x5).f0).size : Int) = 16 then (if (((rd_T74 xz2003 x5).f1).size : Int) = 24 then (r8_Right.j5 k x5 ((((rd_T74 xz2003 x5).f2).size : Int) != 40) xz2000 xz2001 xz2002 xz2003 xz2004 ((rd_T74 xz2003 x5).f0) ((rd_T74 xz2003 x5).f1) ((rd_T74 xz2003 x5).f2)) else (r8_Right.j5 k x5 true xz2000 xz2001 xz2002 xz2003 xz2004 ((rd_T74 xz2003 x5).f0) ((rd_T74 xz2003 x5).f1) ((rd_T74 xz2003 x5).f2))) else (r8_Right.j5 k x5 true xz2000 xz2001 xz2002 xz2003 xz2004 ((rd_T74 xz2003 x5).f0) ((rd_T74 xz2003 x5).f1) ((rd_T74 xz2003 x5).f2))) else (none)) else ((r8_clash.f k xz2000 xz2001 xz2002 xz2003 xz2004).bind fun tz7 => (some (xz2004 == tz7)))
def r8_Right.j5 : Nat → Int → Bool → ByteArray → Int → List (S72) → List (S74) → Bool → ByteArray → ByteArray → ByteArray → Option (Bool)
 | 0, _, _, _, _, _, _, _, _, _, _ => none
 | k + 1, x5, x94, xz2000, xz2001, xz2002, xz2003, xz2004, xz10000, xz10001, xz10002 => if x94 = true then (some false) else (r8_Right.l3 k x5 0 xz2000 xz2001 xz2002 xz2003 xz2004 xz10000 xz10001 xz10002)
def r8_Right.l3 : Nat → Int → Int → ByteArray → Int → List (S72) → List (S74) → Bool → ByteArray → ByteArray → ByteArray → Option (Bool)
 | 0, _, _, _, _, _, _, _, _, _, _ => none
 | k + 1, x5, x7, xz2000, xz2001, xz2002, xz2003, xz2004, xz10000, xz10001, xz10002 => if x7 < x5 then (if 0 ≤ x7 then (if x7 < (xz2003.length : Int) then (if xz10000.toList = ((rd_T74 xz2003 x7).f0).toList then (if xz10001.toList = ((rd_T74 xz2003 x7).f1).toList then (some false) else (r8_Right.l3 k x5 (wrap64 (x7 + 1)) xz2000 xz2001 xz2002 xz2003 xz2004 xz10000 xz10001 xz10002)) else (r8_Right.l3 k x5 (wrap64 (x7 + 1)) xz2000 xz2001 xz2002 xz2003 xz2004 xz10000 xz10001 xz10002)) else (none)) else (none)) else (r8_Right.l2 k (wrap64 (x5 + 1)) xz2000 xz2001 xz2002 xz2003 xz2004)
end
def r8_Right.f (k : Nat) (a0_0 : ByteArray) (a0_1 : Int) (l0_2 : List (S72)) (l0_3 : List (S74)) (a0_4 : Bool) : Option (Bool) := (r7_Right.f a0_0 a0_1).bind fun tz2 => (if tz2 = true then (if (l0_2.length : Int) > 2000 then (r8_Right.j0 k true a0_0 a0_1 l0_2 l0_3 a0_4) else (r8_Right.j0 k (decide ((l0_3.length : Int) > 2000)) a0_0 a0_1 l0_2 l0_3 a0_4)) else (r8_Right.j0 k true a0_0 a0_1 l0_2 l0_3 a0_4))
def r8_Right.T11 : Bool × List (List Nat × List Nat) := (true, [([], []), ([0], [0]), ([], []), ([1, 2], [1, 2]), ([3], [3]), ([4], [4]), ([], []), ([6], [6]), ([], []), ([7, 8], [7, 8]), ([9], [9]), ([10], [10]), ([5, 11], [5, 11])])
def r8_Right.B11 : List Nat := [0, 1, 0, 7, 15, 31, 0, 64, 0, 448, 960, 1984, 4095]
theorem r8_Right.tab11 : rtab .any (opsOf Try.f38 11) = r8_Right.T11 := by kernel_rfl
theorem r8_Right.bits11 : waitsOk r8_Right.T11.2 r8_Right.B11 = true := by kernel_rfl
def r8_Right.T22 : Bool × List (List Nat × List Nat) := (true, [([], []), ([0], [0]), ([], []), ([2], [2]), ([], []), ([3, 4], [3, 4]), ([5], [5]), ([6], [6]), ([1, 7], [1, 7]), ([8], [8]), ([9], [9]), ([10, 9], [9, 10]), ([9], [9]), ([12, 9], [9, 12]), ([9], [9]), ([13, 14, 9], [9, 13, 14]), ([15, 9], [9, 15]), ([16, 9], [9, 16]), ([11, 17, 9], [9, 11, 17]), ([9, 18], [9, 18])])
def r8_Right.B22 : List Nat := [0, 1, 0, 4, 0, 28, 60, 124, 255, 511, 1023, 2047, 1023, 5119, 1023, 29695, 62463, 127999, 262143, 524287]
theorem r8_Right.tab22 : rtab .any (opsOf Try.f38 22) = r8_Right.T22 := by kernel_rfl
theorem r8_Right.bits22 : waitsOk r8_Right.T22.2 r8_Right.B22 = true := by kernel_rfl
set_option maxHeartbeats 8000000 in
set_option maxRecDepth 100000 in
theorem r8_Right.calls (k : Nat) (a0_0 : ByteArray) (a0_1 : Int) (A0_2 : Option Addr) (c0_2 : Nat) (l0_2 : List (S72)) (A0_3 : Option Addr) (c0_3 : Nat) (l0_3 : List (S74)) (a0_4 : Bool) (r : Bool) (w : World) (hr0_2 : Kd.C k72 w A0_2 l0_2.length l0_2) (hc0_2 : l0_2.length ≤ c0_2) (hr0_3 : Kd.C k74 w A0_3 l0_3.length l0_3) (hc0_3 : l0_3.length ≤ c0_3) (h : r8_Right.f k a0_0 a0_1 l0_2 l0_3 a0_4 = some r) :
  Calls Try.prog 38 #[.agg #[.string a0_0, .int .i64 a0_1, .slice A0_2 l0_2.length c0_2, .slice A0_3 l0_3.length c0_3, .bool a0_4]] w fun e w' => e = .returned (.bool r) ∧ Below w.heap.size w w' := by
 have hu50 := Try.underlying50
 have hu23 := Try.underlying23
 have hu74 := Try.underlying74
 have HR0_2 := am hr0_2
 have HC0_2 := am hc0_2
 clear hr0_2 hc0_2
 have HR0_3 := am hr0_3
 have HC0_3 := am hc0_3
 clear hr0_3 hc0_3
 have HB := am (Below.refl w.heap.size w)
 have H : ((r7_Right.f a0_0 a0_1).bind fun tz2 => (if tz2 = true then (if (l0_2.length : Int) > 2000 then (r8_Right.j0 k true a0_0 a0_1 l0_2 l0_3 a0_4) else (r8_Right.j0 k (decide ((l0_3.length : Int) > 2000)) a0_0 a0_1 l0_2 l0_3 a0_4)) else (r8_Right.j0 k true a0_0 a0_1 l0_2 l0_3 a0_4))) = some r := h
 clear h
 have HC2 := am H
 clear H
 go_enter Try.func38, Try.ntmps38
 go_upto_region 1 with (first | ((with_reducible refine gate_dst (N := 1) rfl ?_); (try (refine gate_guard (by rfl) ?_; dsimp only)); refine box_event ?hg (N := 1) ?hd (cs := #[.string a0_0, .int .i64 a0_1, .slice A0_2 l0_2.length c0_2, .slice A0_3 l0_3.length c0_3, .bool a0_4]) (t := 50) ?hr ?_; (case hd => rfl); (case hg => rfl); (case hr => first | (go_simp; done) | (go_simp; rfl)); intro gbz1 hg w3 hbox hb; have n0_ := am (below_step (pb HB) hb); have n1_ := am (hbox); have n2_ := ge_ hg (pb HB); have n3_ := ge_ hg (pb HB); clear HB; have HB := n0_; have BKz1 := n1_; have GWz1 := n2_; have GEz1 := n3_; clear n0_ n1_ n2_ n3_; clear hb hbox hg))
 (try simp only [Act.put, List.setIfInBounds_toArray, List.set_cons_zero, List.set_cons_succ])
 go_cut [23] (fun v23 wc => ∃ (kq : Nat) (x23_1 : Bool), v23 = .bool x23_1 ∧ Aside0 (r8_Right.j0 kq x23_1 a0_0 a0_1 l0_2 l0_3 a0_4 = some r) ∧ Aside0 (kq ≤ k) ∧ Aside0 (wc.heap[gbz1]? = some (.cells #[.string a0_0, .int .i64 a0_1, (.slice A0_2 l0_2.length c0_2), (.slice A0_3 l0_3.length c0_3), .bool a0_4] 50 (0, 0))) ∧ Aside0 (Below w.heap.size w wc))
 case first =>
  have H := HC2.out
  clear HC2
  replace H := ob_ H
  obtain ⟨tz2, A40, H⟩ := H
  replace H : (if tz2 = true then (if (l0_2.length : Int) > 2000 then (r8_Right.j0 k true a0_0 a0_1 l0_2 l0_3 a0_4) else (r8_Right.j0 k (decide ((l0_3.length : Int) > 2000)) a0_0 a0_1 l0_2 l0_3 a0_4)) else (r8_Right.j0 k true a0_0 a0_1 l0_2 l0_3 a0_4)) = some r := H
  have A4 := Aside0.mk A40
  clear A40
  by_cases c5 : tz2 = true
  rotate_left
  ·replace c5 := Bool.eq_false_iff.mpr c5
   subst c5
   have H1 : (r8_Right.j0 k true a0_0 a0_1 l0_2 l0_3 a0_4) = some r := by rw [if_neg (show ¬ (false = true) by decide)] at H; exact H
   clear H
   have H := H1
   clear H1
   have H' := am H
   clear H
   obtain ⟨hcz13_0, hcz13_1, hcz13_2, hcz13_3, hcz13_4⟩ := bc5 BKz1
   obtain ⟨hfz13_0, hfz13_1, hfz13_2, hfz13_3, hfz13_4⟩ := bf5 BKz1
   go_wp2_with (first | ((with_reducible refine gate_callee (f := 17) rfl ?_); refine goesL_ (some 10) rfl rfl Try.func17 (by kernel_rfl) rfl #[.agg #[.string a0_0, .int .i64 a0_1]] rfl (by (try simp only [List.map_toArray, List.map_cons, List.map_nil]) <;> rfl) ?_; (with_reducible refine (r7_Right.calls a0_0 a0_1 false _ A4.out).mono ?_); rintro e w14 ⟨rfl, hb⟩; refine ⟨_, rfl, ?_⟩; have n0_ := am (bkB (pk BKz1) hb); have n1_ := am (below_step (sC_ HB) hb); clear BKz1; clear HB; have BKz1 := n0_; have HB := n1_; clear n0_ n1_; (try clear hi)))
   go_meet
   case rel => exact ⟨_, (true), (by first | rfl | (simp; done) | (simp [*]; done)), H', ⟨by first | omega | exact Nat.le_refl _⟩, (sk_ BKz1), (sB_ HB)⟩
  subst c5
  have H1 : (if (l0_2.length : Int) > 2000 then (r8_Right.j0 k true a0_0 a0_1 l0_2 l0_3 a0_4) else (r8_Right.j0 k (decide ((l0_3.length : Int) > 2000)) a0_0 a0_1 l0_2 l0_3 a0_4)) = some r := by rw [if_pos rfl] at H; exact H
  clear H
  have H := H1
  clear H1
  by_cases c6 : (l0_2.length : Int) > 2000
  ·rw [if_pos c6] at H
   have c6b0 : decide (2000 < (l0_2.length : Int)) = true := decide_eq_true c6
   have c6b1 : decide (2000 < l0_2.length) = true := decide_eq_true (by omega)
   clear c6
   (first | rw [c6b0] | rw [c6b1] | (simp only [i64_w, i32_w]; rw [c6b0]) | skip)
   have H' := am H
   clear H
   obtain ⟨hcz7_0, hcz7_1, hcz7_2, hcz7_3, hcz7_4⟩ := bc5 BKz1
   obtain ⟨hfz7_0, hfz7_1, hfz7_2, hfz7_3, hfz7_4⟩ := bf5 BKz1
   go_wp2_with (first | ((with_reducible refine gate_callee (f := 17) rfl ?_); refine goesL_ (some 10) rfl rfl Try.func17 (by kernel_rfl) rfl #[.agg #[.string a0_0, .int .i64 a0_1]] rfl (by (try simp only [List.map_toArray, List.map_cons, List.map_nil]) <;> rfl) ?_; (with_reducible refine (r7_Right.calls a0_0 a0_1 true _ A4.out).mono ?_); rintro e w8 ⟨rfl, hb⟩; refine ⟨_, rfl, ?_⟩; have n0_ := am (bkB (pk BKz1) hb); have n1_ := am (below_step (sC_ HB) hb); clear BKz1; clear HB; have BKz1 := n0_; have HB := n1_; clear n0_ n1_; obtain ⟨hcz9_0, hcz9_1, hcz9_2, hcz9_3, hcz9_4⟩ := bc5 BKz1; obtain ⟨hfz9_0, hfz9_1, hfz9_2, hfz9_3, hfz9_4⟩ := bf5 BKz1))
   go_meet
   case rel => exact ⟨_, (true), (by first | rfl | (simp; done) | (simp [*]; done)), H', ⟨by first | omega | exact Nat.le_refl _⟩, (sk_ BKz1), (sB_ HB)⟩
  rw [if_neg c6] at H
  have c6b0 : decide (2000 < (l0_2.length : Int)) = false := decide_eq_false c6
  have c6b1 : decide (2000 < l0_2.length) = false := decide_eq_false (by omega)
  clear c6
  (first | rw [c6b0] | rw [c6b1] | (simp only [i64_w, i32_w]; rw [c6b0]) | skip)
  have H' := am H
  clear H
  obtain ⟨hcz10_0, hcz10_1, hcz10_2, hcz10_3, hcz10_4⟩ := bc5 BKz1
  obtain ⟨hfz10_0, hfz10_1, hfz10_2, hfz10_3, hfz10_4⟩ := bf5 BKz1
  go_wp2_with (first | ((with_reducible refine gate_callee (f := 17) rfl ?_); refine goesL_ (some 10) rfl rfl Try.func17 (by kernel_rfl) rfl #[.agg #[.string a0_0, .int .i64 a0_1]] rfl (by (try simp only [List.map_toArray, List.map_cons, List.map_nil]) <;> rfl) ?_; (with_reducible refine (r7_Right.calls a0_0 a0_1 true _ A4.out).mono ?_); rintro e w11 ⟨rfl, hb⟩; refine ⟨_, rfl, ?_⟩; have n0_ := am (bkB (pk BKz1) hb); have n1_ := am (below_step (sC_ HB) hb); clear BKz1; clear HB; have BKz1 := n0_; have HB := n1_; clear n0_ n1_; obtain ⟨hcz12_0, hcz12_1, hcz12_2, hcz12_3, hcz12_4⟩ := bc5 BKz1; obtain ⟨hfz12_0, hfz12_1, hfz12_2, hfz12_3, hfz12_4⟩ := bf5 BKz1))
  go_meet
  case rel => exact ⟨_, (decide ((l0_3.length : Int) > 2000)), (by first | rfl | (simp; done) | (simp [*]; done)), H', ⟨by first | omega | exact Nat.le_refl _⟩, (sk_ BKz1), (sB_ HB)⟩
 clear HC2
 try clear c1
 try clear p2
 try clear c3
 try clear c5
 try clear c6
 try clear c6b0
 try clear c6b1
 try clear hcz10_0
 try clear hcz10_1
 try clear hcz10_2
 try clear hcz10_3
 try clear hcz10_4
 try clear hcz12_0
 try clear hcz12_1
 try clear hcz12_2
 try clear hcz12_3
 try clear hcz12_4
 try clear hcz13_0
 try clear hcz13_1
 try clear hcz13_2
 try clear hcz13_3
 try clear hcz13_4
 try clear hcz7_0
 try clear hcz7_1
 try clear hcz7_2
 try clear hcz7_3
 try clear hcz7_4
 try clear hcz9_0
 try clear hcz9_1
 try clear hcz9_2
 try clear hcz9_3
 try clear hcz9_4
 try clear hfz10_0
 try clear hfz10_1
 try clear hfz10_2
 try clear hfz10_3
 try clear hfz10_4
 try clear hfz12_0
 try clear hfz12_1
 try clear hfz12_2
 try clear hfz12_3
 try clear hfz12_4
 try clear hfz13_0
 try clear hfz13_1
 try clear hfz13_2
 try clear hfz13_3
 try clear hfz13_4
 try clear hfz7_0
 try clear hfz7_1
 try clear hfz7_2
 try clear hfz7_3
 try clear hfz7_4
 try clear hfz9_0
 try clear hfz9_1
 try clear hfz9_2
 try clear hfz9_3
 try clear hfz9_4
 obtain ⟨kq, x23_1, rfl, HA, HJ1, BKz1, HB⟩ := hcut
 cases kq with
 | zero => exact absurd HA.out (by simp [r8_Right.j0])
 | succ kj1 => ?_
 have H := HA.out
 clear HA
 simp only [r8_Right.j0] at H
 by_cases c15 : x23_1 = true
 ·subst c15
  have H1 : (some false) = some r := by rw [if_pos rfl] at H; exact H
  clear H
  have H := H1
  clear H1
  obtain rfl := Option.some.inj H
  go_wp2
  go_ret
  exact ⟨by first | rfl | (simp <;> rfl) | (simp [*] <;> rfl), sC_ HB⟩
 replace c15 := Bool.eq_false_iff.mpr c15
 subst c15
 have H1 : (r8_Right.l0 kj1 0 a0_0 a0_1 l0_2 l0_3 a0_4) = some r := by rw [if_neg (show ¬ (false = true) by decide)] at H; exact H
 clear H
 have H := H1
 clear H1
 have H' := am H
 clear H
 go_wp2
 go_loopg [3] kj1 (fun kq v3 w' => ∃ (x3_2 : Int), v3 = .int .i64 x3_2 ∧ Aside0 (r8_Right.l0 kq x3_2 a0_0 a0_1 l0_2 l0_3 a0_4 = some r) ∧ Aside0 (kq ≤ kj1) ∧ Aside0 (w'.heap[gbz1]? = some (.cells #[.string a0_0, .int .i64 a0_1, (.slice A0_2 l0_2.length c0_2), (.slice A0_3 l0_3.length c0_3), .bool a0_4] 50 (0, 0))) ∧ Aside0 (Below w.heap.size w w'))
 case atStart => exact ⟨(0), (by first | rfl | (simp; done) | (simp [*]; done)), H', ⟨Nat.le_refl _⟩, (sk_ BKz1), (sB_ HB)⟩
 clear H'
 try clear c1
 try clear p2
 try clear c3
 try clear c5
 try clear c6
 try clear c6b0
 try clear c6b1
 try clear c15
 try clear hcz10_0
 try clear hcz10_1
 try clear hcz10_2
 try clear hcz10_3
 try clear hcz10_4
 try clear hcz12_0
 try clear hcz12_1
 try clear hcz12_2
 try clear hcz12_3
 try clear hcz12_4
 try clear hcz13_0
 try clear hcz13_1
 try clear hcz13_2
 try clear hcz13_3
 try clear hcz13_4
 try clear hcz7_0
 try clear hcz7_1
 try clear hcz7_2
 try clear hcz7_3
 try clear hcz7_4
 try clear hcz9_0
 try clear hcz9_1
 try clear hcz9_2
 try clear hcz9_3
 try clear hcz9_4
 try clear hfz10_0
 try clear hfz10_1
 try clear hfz10_2
 try clear hfz10_3
 try clear hfz10_4
 try clear hfz12_0
 try clear hfz12_1
 try clear hfz12_2
 try clear hfz12_3
 try clear hfz12_4
 try clear hfz13_0
 try clear hfz13_1
 try clear hfz13_2
 try clear hfz13_3
 try clear hfz13_4
 try clear hfz7_0
 try clear hfz7_1
 try clear hfz7_2
 try clear hfz7_3
 try clear hfz7_4
 try clear hfz9_0
 try clear hfz9_1
 try clear hfz9_2
 try clear hfz9_3
 try clear hfz9_4
 try clear p2
 obtain ⟨x3_2, rfl, HA, HK2, BKz1, HB⟩ := hrel
 cases gk with
 | zero => exact absurd HA.out (by simp [r8_Right.l0])
 | succ k2 => ?_
 have H := HA.out
 clear HA
 simp only [r8_Right.l0] at H
 by_cases c16 : x3_2 < (l0_2.length : Int)
 ·rw [if_pos c16] at H
  have c16b0 : decide (x3_2 < (l0_2.length : Int)) = true := decide_eq_true c16
  clear c16
  have HC17 := am H
  clear H
  obtain ⟨hcz18_0, hcz18_1, hcz18_2, hcz18_3, hcz18_4⟩ := bc5 BKz1
  obtain ⟨hfz18_0, hfz18_1, hfz18_2, hfz18_3, hfz18_4⟩ := bf5 BKz1
  go_upto_region 6 with (fail)
  go_cut [48] (fun v48 wc => ∃ (kq : Nat) (x48_16 : Bool), v48 = .bool x48_16 ∧ Aside0 (r8_Right.j2 kq x3_2 x48_16 a0_0 a0_1 l0_2 l0_3 a0_4 = some r) ∧ Aside0 (kq ≤ k2) ∧ Aside0 (wc.heap[gbz1]? = some (.cells #[.string a0_0, .int .i64 a0_1, (.slice A0_2 l0_2.length c0_2), (.slice A0_3 l0_3.length c0_3), .bool a0_4] 50 (0, 0))) ∧ Aside0 (Below w.heap.size w wc))
  case first =>
   have H := HC17.out
   clear HC17
   by_cases c19 : 0 ≤ x3_2
   rotate_left
   ·rw [if_neg c19] at H
    exact absurd H (by simp)
   rw [if_pos c19] at H
   have c19b0 : decide (0 ≤ x3_2) = true := decide_eq_true c19
   clear c19
   (first | rw [c19b0] | rw [c19b1] | (simp only [i64_w, i32_w]; rw [c19b0]) | skip)
   by_cases c20 : (((rd_T72 l0_2 x3_2).f0).size : Int) > 100
   ·rw [if_pos c20] at H
    have c20b0 : decide (100 < (((rd_T72 l0_2 x3_2).f0).size : Int)) = true := decide_eq_true c20
    have c20b1 : decide (100 < ((rd_T72 l0_2 x3_2).f0).size) = true := decide_eq_true (by omega)
    clear c20
    have H' := am H
    clear H
    obtain ⟨hcz21_0, hcz21_1, hcz21_2, hcz21_3, hcz21_4⟩ := bc5 BKz1
    obtain ⟨hfz21_0, hfz21_1, hfz21_2, hfz21_3, hfz21_4⟩ := bf5 BKz1
    have pz3 : 0 ≤ (x3_2 : Int) := of_decide_eq_true (by first | (with_reducible assumption) | assumption)
    have qz3 : x3_2 < (l0_2.length : Int) := of_decide_eq_true (by first | (with_reducible assumption) | assumption)
    obtain ⟨adz3, ez3, hxz3_0, hxz3_1⟩ := at_T72 HR0_2.out x3_2 pz3 qz3
    cases ez3
    replace hxz3_0 := (HB.out.cell (World.block_lt_of_cell? w _ hxz3_0)).trans hxz3_0
    replace hxz3_1 := (HB.out.cell (World.block_lt_of_cell? w _ hxz3_1)).trans hxz3_1
    replace pz3 := eq_true pz3
    replace qz3 := eq_true qz3
    go_wp2
    go_meet
    case rel => exact ⟨_, (true), (by first | rfl | (simp; done) | (simp [*]; done)), H', ⟨by have := HJ1.out; have := HK2.out; first | omega | exact Nat.le_refl _⟩, (sk_ BKz1), (sB_ HB)⟩
   rw [if_neg c20] at H
   have c20b0 : decide (100 < (((rd_T72 l0_2 x3_2).f0).size : Int)) = false := decide_eq_false c20
   have c20b1 : decide (100 < ((rd_T72 l0_2 x3_2).f0).size) = false := decide_eq_false (by omega)
   clear c20
   have H' := am H
   clear H
   obtain ⟨hcz22_0, hcz22_1, hcz22_2, hcz22_3, hcz22_4⟩ := bc5 BKz1
   obtain ⟨hfz22_0, hfz22_1, hfz22_2, hfz22_3, hfz22_4⟩ := bf5 BKz1
   have pz3 : 0 ≤ (x3_2 : Int) := of_decide_eq_true (by first | (with_reducible assumption) | assumption)
   have qz3 : x3_2 < (l0_2.length : Int) := of_decide_eq_true (by first | (with_reducible assumption) | assumption)
   obtain ⟨adz3, ez3, hxz3_0, hxz3_1⟩ := at_T72 HR0_2.out x3_2 pz3 qz3
   cases ez3
   replace hxz3_0 := (HB.out.cell (World.block_lt_of_cell? w _ hxz3_0)).trans hxz3_0
   replace hxz3_1 := (HB.out.cell (World.block_lt_of_cell? w _ hxz3_1)).trans hxz3_1
   replace pz3 := eq_true pz3
   replace qz3 := eq_true qz3
   have pz4 : 0 ≤ (x3_2 : Int) := of_decide_eq_true (by first | (with_reducible assumption) | assumption)
   have qz4 : x3_2 < (l0_2.length : Int) := of_decide_eq_true (by first | (with_reducible assumption) | assumption)
   obtain ⟨adz4, ez4, hxz4_0, hxz4_1⟩ := at_T72 HR0_2.out x3_2 pz4 qz4
   obtain rfl : adz3 = adz4 := (by injection ez4)
   replace hxz4_0 := (HB.out.cell (World.block_lt_of_cell? w _ hxz4_0)).trans hxz4_0
   replace hxz4_1 := (HB.out.cell (World.block_lt_of_cell? w _ hxz4_1)).trans hxz4_1
   replace pz4 := eq_true pz4
   replace qz4 := eq_true qz4
   go_wp2
   go_meet
   case rel => exact ⟨_, (((((rd_T72 l0_2 x3_2).f1).size : Int) != 16)), (by first | rfl | (simp; done) | (simp [*]; done)), H', ⟨by have := HJ1.out; have := HK2.out; first | omega | exact Nat.le_refl _⟩, (sk_ BKz1), (sB_ HB)⟩
  clear HC17
  try clear c1
  try clear c2
  try clear p2
  try clear c3
  try clear p3
  try clear q3
  try clear hx3
  try clear c5
  try clear c6
  try clear c6b0
  try clear c6b1
  try clear c15
  try clear c16
  try clear c16b0
  try clear c17
  try clear c19
  try clear c19b0
  try clear c19b1
  try clear c20
  try clear c20b0
  try clear c20b1
  try clear hcz10_0
  try clear hcz10_1
  try clear hcz10_2
  try clear hcz10_3
  try clear hcz10_4
  try clear hcz12_0
  try clear hcz12_1
  try clear hcz12_2
  try clear hcz12_3
  try clear hcz12_4
  try clear hcz13_0
  try clear hcz13_1
  try clear hcz13_2
  try clear hcz13_3
  try clear hcz13_4
  try clear hcz18_0
  try clear hcz18_1
  try clear hcz18_2
  try clear hcz18_3
  try clear hcz18_4
  try clear hcz21_0
  try clear hcz21_1
  try clear hcz21_2
  try clear hcz21_3
  try clear hcz21_4
  try clear hcz22_0
  try clear hcz22_1
  try clear hcz22_2
  try clear hcz22_3
  try clear hcz22_4
  try clear hcz7_0
  try clear hcz7_1
  try clear hcz7_2
  try clear hcz7_3
  try clear hcz7_4
  try clear hcz9_0
  try clear hcz9_1
  try clear hcz9_2
  try clear hcz9_3
  try clear hcz9_4
  try clear hfz10_0
  try clear hfz10_1
  try clear hfz10_2
  try clear hfz10_3
  try clear hfz10_4
  try clear hfz12_0
  try clear hfz12_1
  try clear hfz12_2
  try clear hfz12_3
  try clear hfz12_4
  try clear hfz13_0
  try clear hfz13_1
  try clear hfz13_2
  try clear hfz13_3
  try clear hfz13_4
  try clear hfz18_0
  try clear hfz18_1
  try clear hfz18_2
  try clear hfz18_3
  try clear hfz18_4
  try clear hfz21_0
  try clear hfz21_1
  try clear hfz21_2
  try clear hfz21_3
  try clear hfz21_4
  try clear hfz22_0
  try clear hfz22_1
  try clear hfz22_2
  try clear hfz22_3
  try clear hfz22_4
  try clear hfz7_0
  try clear hfz7_1
  try clear hfz7_2
  try clear hfz7_3
  try clear hfz7_4
  try clear hfz9_0
  try clear hfz9_1
  try clear hfz9_2
  try clear hfz9_3
  try clear hfz9_4
  try clear hxz3_0
  try clear hxz3_1
  try clear hxz4_0
  try clear hxz4_1
  try clear p2
  try clear pz3
  try clear pz4
  try clear qz3
  try clear qz4
  obtain ⟨kq, x48_16, rfl, HA, HJ16, BKz1, HB⟩ := hcut
  cases kq with
  | zero => exact absurd HA.out (by simp [r8_Right.j2])
  | succ kj16 => ?_
  have H := HA.out
  clear HA
  simp only [r8_Right.j2] at H
  by_cases c23 : x48_16 = true
  ·subst c23
   have H1 : (some false) = some r := by rw [if_pos rfl] at H; exact H
   clear H
   have H := H1
   clear H1
   obtain rfl := Option.some.inj H
   go_wp2
   go_ret
   exact ⟨by first | rfl | (simp <;> rfl) | (simp [*] <;> rfl), sC_ HB⟩
  replace c23 := Bool.eq_false_iff.mpr c23
  subst c23
  have H1 : (r8_Right.l1 kj16 x3_2 0 a0_0 a0_1 l0_2 l0_3 a0_4) = some r := by rw [if_neg (show ¬ (false = true) by decide)] at H; exact H
  clear H
  have H := H1
  clear H1
  have H' := am H
  clear H
  go_wp2
  go_loopg [4] kj16 (fun kq v4 w' => ∃ (x4_4 : Int), v4 = .int .i64 x4_4 ∧ Aside0 (r8_Right.l1 kq x3_2 x4_4 a0_0 a0_1 l0_2 l0_3 a0_4 = some r) ∧ Aside0 (kq ≤ kj16) ∧ Aside0 (w'.heap[gbz1]? = some (.cells #[.string a0_0, .int .i64 a0_1, (.slice A0_2 l0_2.length c0_2), (.slice A0_3 l0_3.length c0_3), .bool a0_4] 50 (0, 0))) ∧ Aside0 (Below w.heap.size w w'))
  case atStart => exact ⟨(0), (by first | rfl | (simp; done) | (simp [*]; done)), H', ⟨Nat.le_refl _⟩, (sk_ BKz1), (sB_ HB)⟩
  clear H'
  try clear c1
  try clear c2
  try clear p2
  try clear c3
  try clear p3
  try clear q3
  try clear hx3
  try clear c5
  try clear c6
  try clear c6b0
  try clear c6b1
  try clear c15
  try clear c16
  try clear c16b0
  try clear c17
  try clear c19
  try clear c19b0
  try clear c19b1
  try clear c20
  try clear c20b0
  try clear c20b1
  try clear c23
  try clear hcz10_0
  try clear hcz10_1
  try clear hcz10_2
  try clear hcz10_3
  try clear hcz10_4
  try clear hcz12_0
  try clear hcz12_1
  try clear hcz12_2
  try clear hcz12_3
  try clear hcz12_4
  try clear hcz13_0
  try clear hcz13_1
  try clear hcz13_2
  try clear hcz13_3
  try clear hcz13_4
  try clear hcz18_0
  try clear hcz18_1
  try clear hcz18_2
  try clear hcz18_3
  try clear hcz18_4
  try clear hcz21_0
  try clear hcz21_1
  try clear hcz21_2
  try clear hcz21_3
  try clear hcz21_4
  try clear hcz22_0
  try clear hcz22_1
  try clear hcz22_2
  try clear hcz22_3
  try clear hcz22_4
  try clear hcz7_0
  try clear hcz7_1
  try clear hcz7_2
  try clear hcz7_3
  try clear hcz7_4
  try clear hcz9_0
  try clear hcz9_1
  try clear hcz9_2
  try clear hcz9_3
  try clear hcz9_4
  try clear hfz10_0
  try clear hfz10_1
  try clear hfz10_2
  try clear hfz10_3
  try clear hfz10_4
  try clear hfz12_0
  try clear hfz12_1
  try clear hfz12_2
  try clear hfz12_3
  try clear hfz12_4
  try clear hfz13_0
  try clear hfz13_1
  try clear hfz13_2
  try clear hfz13_3
  try clear hfz13_4
  try clear hfz18_0
  try clear hfz18_1
  try clear hfz18_2
  try clear hfz18_3
  try clear hfz18_4
  try clear hfz21_0
  try clear hfz21_1
  try clear hfz21_2
  try clear hfz21_3
  try clear hfz21_4
  try clear hfz22_0
  try clear hfz22_1
  try clear hfz22_2
  try clear hfz22_3
  try clear hfz22_4
  try clear hfz7_0
  try clear hfz7_1
  try clear hfz7_2
  try clear hfz7_3
  try clear hfz7_4
  try clear hfz9_0
  try clear hfz9_1
  try clear hfz9_2
  try clear hfz9_3
  try clear hfz9_4
  try clear hxz3_0
  try clear hxz3_1
  try clear hxz4_0
  try clear hxz4_1
  try clear p2
  try clear p3
  try clear pz3
  try clear pz4
  try clear q3
  try clear qz3
  try clear qz4
  obtain ⟨x4_4, rfl, HA, HK4, BKz1, HB⟩ := hrel
  cases gk with
  | zero => exact absurd HA.out (by simp [r8_Right.l1])
  | succ k4 => ?_
  have H := HA.out
  clear HA
  simp only [r8_Right.l1] at H
  by_cases c24 : x4_4 < x3_2
  rotate_left
  ·rw [if_neg c24] at H
   have c24b0 : decide (x4_4 < x3_2) = false := decide_eq_false c24
   clear c24
   have H' := am H
   clear H
   go_wp2
   go_roundg k4
   case measure => have := HJ1.out; have := HK2.out; have := HJ16.out; have := HK4.out; omega
   case rel => exact ⟨(wrap64 (x3_2 + 1)), (by first | rfl | (simp; done) | (simp [*]; done)), H', ⟨by have := HJ1.out; have := HK2.out; have := HJ16.out; have := HK4.out; omega⟩, (sk_ BKz1), (sB_ HB)⟩
  rw [if_pos c24] at H
  have c24b0 : decide (x4_4 < x3_2) = true := decide_eq_true c24
  clear c24
  by_cases c25 : 0 ≤ x3_2
  rotate_left
  ·rw [if_neg c25] at H
   exact absurd H (by simp)
  rw [if_pos c25] at H
  have c25b0 : decide (0 ≤ x3_2) = true := decide_eq_true c25
  clear c25
  by_cases c26 : x3_2 < (l0_2.length : Int)
  rotate_left
  ·rw [if_neg c26] at H
   exact absurd H (by simp)
  rw [if_pos c26] at H
  have c26b0 : decide (x3_2 < (l0_2.length : Int)) = true := decide_eq_true c26
  clear c26
  by_cases c27 : 0 ≤ x4_4
  rotate_left
  ·rw [if_neg c27] at H
   exact absurd H (by simp)
  rw [if_pos c27] at H
  have c27b0 : decide (0 ≤ x4_4) = true := decide_eq_true c27
  clear c27
  by_cases c28 : x4_4 < (l0_2.length : Int)
  rotate_left
  ·rw [if_neg c28] at H
   exact absurd H (by simp)
  rw [if_pos c28] at H
  have c28b0 : decide (x4_4 < (l0_2.length : Int)) = true := decide_eq_true c28
  clear c28
  by_cases c29 : ((rd_T72 l0_2 x3_2).f0).toList = ((rd_T72 l0_2 x4_4).f0).toList
  ·rw [if_pos c29] at H
   have c29b0 : (((rd_T72 l0_2 x3_2).f0).toList == ((rd_T72 l0_2 x4_4).f0).toList) = true := beq_iff_eq.mpr c29
   have c29b1 : (((rd_T72 l0_2 x3_2).f0).toList != ((rd_T72 l0_2 x4_4).f0).toList) = false := bne_eq_false_iff_eq.mpr c29
   clear c29
   obtain rfl := Option.some.inj H
   try go_wp2
   have n0_ := am (bkD BKz1.out)
   have n1_ := am (below_drew1 HB.out)
   clear BKz1 HB; have BKz1 := n0_; have HB := n1_; clear n0_ n1_
   have pz5 : 0 ≤ (x3_2 : Int) := of_decide_eq_true (by first | (with_reducible assumption) | assumption)
   have qz5 : x3_2 < (l0_2.length : Int) := of_decide_eq_true (by first | (with_reducible assumption) | assumption)
   obtain ⟨adz5, ez5, hxz5_0, hxz5_1⟩ := at_T72 HR0_2.out x3_2 pz5 qz5
   have hwz5_1 := hxz5_1
   have hwz5_0 := hxz5_0
   cases ez5
   replace hxz5_0 := (HB.out.cell (World.block_lt_of_cell? w _ hxz5_0)).trans hxz5_0
   replace hxz5_1 := (HB.out.cell (World.block_lt_of_cell? w _ hxz5_1)).trans hxz5_1
   replace pz5 := eq_true pz5
   replace qz5 := eq_true qz5
   have pz6 : 0 ≤ (x4_4 : Int) := of_decide_eq_true (by first | (with_reducible assumption) | assumption)
   have qz6 : x4_4 < (l0_2.length : Int) := of_decide_eq_true (by first | (with_reducible assumption) | assumption)
   obtain ⟨adz6, ez6, hxz6_0, hxz6_1⟩ := at_T72 HR0_2.out x4_4 pz6 qz6
   have hwz6_1 := hxz6_1
   have hwz6_0 := hxz6_0
   obtain rfl : adz5 = adz6 := (by injection ez6)
   replace hxz6_0 := (HB.out.cell (World.block_lt_of_cell? w _ hxz6_0)).trans hxz6_0
   replace hxz6_1 := (HB.out.cell (World.block_lt_of_cell? w _ hxz6_1)).trans hxz6_1
   replace pz6 := eq_true pz6
   replace qz6 := eq_true qz6
   refine start_ (n := 13) (S := fun w' => w'.cell? ⟨gbz1, 0, none⟩ = some (.string a0_0) ∧ w'.cell? ⟨gbz1, 1, none⟩ = some (.int .i64 a0_1) ∧ w'.cell? ⟨gbz1, 2, none⟩ = some (.slice (some adz5) l0_2.length c0_2) ∧ w'.cell? ⟨gbz1, 3, none⟩ = some (.slice A0_3 l0_3.length c0_3) ∧ w'.cell? ⟨gbz1, 4, none⟩ = some (.bool a0_4) ∧ w'.cell? (adz5.add ((x3_2).toNat * 2)) = some (.string ((rd_T72 l0_2 x3_2).f0)) ∧ w'.cell? ⟨(adz5.add ((x3_2).toNat * 2)).block, (adz5.add ((x3_2).toNat * 2)).off + 1, none⟩ = some (.string ((rd_T72 l0_2 x3_2).f1)) ∧ w'.cell? (adz5.add ((x4_4).toNat * 2)) = some (.string ((rd_T72 l0_2 x4_4).f0)) ∧ w'.cell? ⟨(adz5.add ((x4_4).toNat * 2)).block, (adz5.add ((x4_4).toNat * 2)).off + 1, none⟩ = some (.string ((rd_T72 l0_2 x4_4).f1))) (ds := []) #[false, false, false, false, false, false, false, false, false, false, false, false, false] (by kernel_rfl) rfl rfl ⟨(blk_cell BKz1.out 0).trans rfl, (blk_cell BKz1.out 1).trans rfl, (blk_cell BKz1.out 2).trans rfl, (blk_cell BKz1.out 3).trans rfl, (blk_cell BKz1.out 4).trans rfl, ((HB.out.cell (World.block_lt_of_cell? w _ hwz5_0)).trans hwz5_0), ((HB.out.cell (World.block_lt_of_cell? w _ hwz5_1)).trans hwz5_1), ((HB.out.cell (World.block_lt_of_cell? w _ hwz6_0)).trans hwz6_0), ((HB.out.cell (World.block_lt_of_cell? w _ hwz6_1)).trans hwz6_1)⟩ (fun hHeld => ?_); refine with_tabW r8_Right.tab11 r8_Right.bits11 (fun HT_ HW_ => ?_)
   generalize wr.drew = w30 at BKz1 HB hxz5_0 hxz5_1 hxz6_0 hxz6_1 hHeld ⊢
   refine pv_ 0 (some 54) HT_ ?_
   refine pv_ 2 (some 56) HT_ ?_
   refine pv_ 6 (some 60) HT_ ?_
   refine pv_ 8 (some 62) HT_ ?_
   refine tk_ 1 (some 55) HT_ HW_ rfl rfl (.inl ⟨by rfl, by rintro w' ⟨s0, s1, s2, s3, s4, s5, s6, s7, s8⟩; go_simp; with_reducible rfl⟩) hHeld (by simp only [Act.put, sa_, s0_, s1_, i64_w, i32_w]; rfl) ?_
   refine pv_ 3 (some 57) HT_ ?_
   refine pv_ 4 (some 58) HT_ ?_
   refine tk_ 5 (some 59) HT_ HW_ rfl rfl (.inl ⟨by rfl, by rintro w' ⟨s0, s1, s2, s3, s4, s5, s6, s7, s8⟩; go_simp; with_reducible rfl⟩) hHeld (by simp only [Act.put, sa_, s0_, s1_, i64_w, i32_w]; rfl) ?_
   refine tk_ 7 (some 61) HT_ HW_ rfl rfl (.inl ⟨by rfl, by rintro w' ⟨s0, s1, s2, s3, s4, s5, s6, s7, s8⟩; go_simp; with_reducible rfl⟩) hHeld (by simp only [Act.put, sa_, s0_, s1_, i64_w, i32_w]; rfl) ?_
   refine pv_ 9 (some 63) HT_ ?_
   refine pv_ 10 (some 64) HT_ ?_
   refine tk_ 11 (some 65) HT_ HW_ rfl rfl (.inl ⟨by rfl, by rintro w' ⟨s0, s1, s2, s3, s4, s5, s6, s7, s8⟩; go_simp; with_reducible rfl⟩) hHeld (by simp only [Act.put, sa_, s0_, s1_, i64_w, i32_w]; rfl) ?_
   refine pv_ 12 (some 66) HT_ ?_
   refine done_ (done_of HT_.out (by kernel_rfl)) ?_
   try go_wp2
   go_ret
   exact ⟨by first | rfl | (simp <;> rfl) | (simp [*] <;> rfl), sC_ HB⟩
  rw [if_neg c29] at H
  have c29b0 : (((rd_T72 l0_2 x3_2).f0).toList == ((rd_T72 l0_2 x4_4).f0).toList) = false := beq_eq_false_iff_ne.mpr c29
  have c29b1 : (((rd_T72 l0_2 x3_2).f0).toList != ((rd_T72 l0_2 x4_4).f0).toList) = true := bne_iff_ne.mpr c29
  have H' := am H
  clear H
  try go_wp2
  have n0_ := am (bkD BKz1.out)
  have n1_ := am (below_drew1 HB.out)
  clear BKz1 HB; have BKz1 := n0_; have HB := n1_; clear n0_ n1_
  have pz5 : 0 ≤ (x3_2 : Int) := of_decide_eq_true (by first | (with_reducible assumption) | assumption)
  have qz5 : x3_2 < (l0_2.length : Int) := of_decide_eq_true (by first | (with_reducible assumption) | assumption)
  obtain ⟨adz5, ez5, hxz5_0, hxz5_1⟩ := at_T72 HR0_2.out x3_2 pz5 qz5
  have hwz5_1 := hxz5_1
  have hwz5_0 := hxz5_0
  cases ez5
  replace hxz5_0 := (HB.out.cell (World.block_lt_of_cell? w _ hxz5_0)).trans hxz5_0
  replace hxz5_1 := (HB.out.cell (World.block_lt_of_cell? w _ hxz5_1)).trans hxz5_1
  replace pz5 := eq_true pz5
  replace qz5 := eq_true qz5
  have pz6 : 0 ≤ (x4_4 : Int) := of_decide_eq_true (by first | (with_reducible assumption) | assumption)
  have qz6 : x4_4 < (l0_2.length : Int) := of_decide_eq_true (by first | (with_reducible assumption) | assumption)
  obtain ⟨adz6, ez6, hxz6_0, hxz6_1⟩ := at_T72 HR0_2.out x4_4 pz6 qz6
  have hwz6_1 := hxz6_1
  have hwz6_0 := hxz6_0
  obtain rfl : adz5 = adz6 := (by injection ez6)
  replace hxz6_0 := (HB.out.cell (World.block_lt_of_cell? w _ hxz6_0)).trans hxz6_0
  replace hxz6_1 := (HB.out.cell (World.block_lt_of_cell? w _ hxz6_1)).trans hxz6_1
  replace pz6 := eq_true pz6
  replace qz6 := eq_true qz6
  refine start_ (n := 13) (S := fun w' => w'.cell? ⟨gbz1, 0, none⟩ = some (.string a0_0) ∧ w'.cell? ⟨gbz1, 1, none⟩ = some (.int .i64 a0_1) ∧ w'.cell? ⟨gbz1, 2, none⟩ = some (.slice (some adz5) l0_2.length c0_2) ∧ w'.cell? ⟨gbz1, 3, none⟩ = some (.slice A0_3 l0_3.length c0_3) ∧ w'.cell? ⟨gbz1, 4, none⟩ = some (.bool a0_4) ∧ w'.cell? (adz5.add ((x3_2).toNat * 2)) = some (.string ((rd_T72 l0_2 x3_2).f0)) ∧ w'.cell? ⟨(adz5.add ((x3_2).toNat * 2)).block, (adz5.add ((x3_2).toNat * 2)).off + 1, none⟩ = some (.string ((rd_T72 l0_2 x3_2).f1)) ∧ w'.cell? (adz5.add ((x4_4).toNat * 2)) = some (.string ((rd_T72 l0_2 x4_4).f0)) ∧ w'.cell? ⟨(adz5.add ((x4_4).toNat * 2)).block, (adz5.add ((x4_4).toNat * 2)).off + 1, none⟩ = some (.string ((rd_T72 l0_2 x4_4).f1))) (ds := []) #[false, false, false, false, false, false, false, false, false, false, false, false, false] (by kernel_rfl) rfl rfl ⟨(blk_cell BKz1.out 0).trans rfl, (blk_cell BKz1.out 1).trans rfl, (blk_cell BKz1.out 2).trans rfl, (blk_cell BKz1.out 3).trans rfl, (blk_cell BKz1.out 4).trans rfl, ((HB.out.cell (World.block_lt_of_cell? w _ hwz5_0)).trans hwz5_0), ((HB.out.cell (World.block_lt_of_cell? w _ hwz5_1)).trans hwz5_1), ((HB.out.cell (World.block_lt_of_cell? w _ hwz6_0)).trans hwz6_0), ((HB.out.cell (World.block_lt_of_cell? w _ hwz6_1)).trans hwz6_1)⟩ (fun hHeld => ?_); refine with_tabW r8_Right.tab11 r8_Right.bits11 (fun HT_ HW_ => ?_)
  generalize wr.drew = w31 at BKz1 HB hxz5_0 hxz5_1 hxz6_0 hxz6_1 hHeld ⊢
  refine pv_ 0 (some 54) HT_ ?_
  refine pv_ 2 (some 56) HT_ ?_
  refine pv_ 6 (some 60) HT_ ?_
  refine pv_ 8 (some 62) HT_ ?_
  refine tk_ 1 (some 55) HT_ HW_ rfl rfl (.inl ⟨by rfl, by rintro w' ⟨s0, s1, s2, s3, s4, s5, s6, s7, s8⟩; go_simp; with_reducible rfl⟩) hHeld (by simp only [Act.put, sa_, s0_, s1_, i64_w, i32_w]; rfl) ?_
  refine pv_ 3 (some 57) HT_ ?_
  refine pv_ 4 (some 58) HT_ ?_
  refine tk_ 5 (some 59) HT_ HW_ rfl rfl (.inl ⟨by rfl, by rintro w' ⟨s0, s1, s2, s3, s4, s5, s6, s7, s8⟩; go_simp; with_reducible rfl⟩) hHeld (by simp only [Act.put, sa_, s0_, s1_, i64_w, i32_w]; rfl) ?_
  refine tk_ 7 (some 61) HT_ HW_ rfl rfl (.inl ⟨by rfl, by rintro w' ⟨s0, s1, s2, s3, s4, s5, s6, s7, s8⟩; go_simp; with_reducible rfl⟩) hHeld (by simp only [Act.put, sa_, s0_, s1_, i64_w, i32_w]; rfl) ?_
  refine pv_ 9 (some 63) HT_ ?_
  refine pv_ 10 (some 64) HT_ ?_
  refine tk_ 11 (some 65) HT_ HW_ rfl rfl (.inl ⟨by rfl, by rintro w' ⟨s0, s1, s2, s3, s4, s5, s6, s7, s8⟩; go_simp; with_reducible rfl⟩) hHeld (by simp only [Act.put, sa_, s0_, s1_, i64_w, i32_w]; rfl) ?_
  refine pv_ 12 (some 66) HT_ ?_
  refine done_ (done_of HT_.out (by kernel_rfl)) ?_
  try go_wp2
  go_roundg k4
  case measure => have := HJ1.out; have := HK2.out; have := HJ16.out; have := HK4.out; omega
  case rel => exact ⟨(wrap64 (x4_4 + 1)), (by first | rfl | (simp; done) | (simp [*]; done)), H', ⟨by have := HJ1.out; have := HK2.out; have := HJ16.out; have := HK4.out; omega⟩, (sk_ BKz1), (sB_ HB)⟩
 rw [if_neg c16] at H
 have c16b0 : decide (x3_2 < (l0_2.length : Int)) = false := decide_eq_false c16
 clear c16
 have H' := am H
 clear H
 obtain ⟨hcz32_0, hcz32_1, hcz32_2, hcz32_3, hcz32_4⟩ := bc5 BKz1
 obtain ⟨hfz32_0, hfz32_1, hfz32_2, hfz32_3, hfz32_4⟩ := bf5 BKz1
 go_wp2
 go_loopg [5] k2 (fun kq v5 w' => ∃ (x5_3 : Int), v5 = .int .i64 x5_3 ∧ Aside0 (r8_Right.l2 kq x5_3 a0_0 a0_1 l0_2 l0_3 a0_4 = some r) ∧ Aside0 (kq ≤ k2) ∧ Aside0 (w'.heap[gbz1]? = some (.cells #[.string a0_0, .int .i64 a0_1, (.slice A0_2 l0_2.length c0_2), (.slice A0_3 l0_3.length c0_3), .bool a0_4] 50 (0, 0))) ∧ Aside0 (Below w.heap.size w w'))
 case atStart => exact ⟨(0), (by first | rfl | (simp; done) | (simp [*]; done)), H', ⟨Nat.le_refl _⟩, (sk_ BKz1), (sB_ HB)⟩
 clear H'
 try clear c1
 try clear c2
 try clear p2
 try clear c3
 try clear p3
 try clear q3
 try clear hx3
 try clear c5
 try clear c6
 try clear c6b0
 try clear c6b1
 try clear p6
 try clear c15
 try clear c16
 try clear c16b0
 try clear c17
 try clear c19
 try clear c19b0
 try clear c19b1
 try clear c20
 try clear c20b0
 try clear c20b1
 try clear c23
 try clear c24
 try clear c24b0
 try clear c25
 try clear c25b0
 try clear c26
 try clear c26b0
 try clear c27
 try clear c27b0
 try clear c28
 try clear c28b0
 try clear c29
 try clear c29b0
 try clear c29b1
 try clear hcz10_0
 try clear hcz10_1
 try clear hcz10_2
 try clear hcz10_3
 try clear hcz10_4
 try clear hcz12_0
 try clear hcz12_1
 try clear hcz12_2
 try clear hcz12_3
 try clear hcz12_4
 try clear hcz13_0
 try clear hcz13_1
 try clear hcz13_2
 try clear hcz13_3
 try clear hcz13_4
 try clear hcz18_0
 try clear hcz18_1
 try clear hcz18_2
 try clear hcz18_3
 try clear hcz18_4
 try clear hcz21_0
 try clear hcz21_1
 try clear hcz21_2
 try clear hcz21_3
 try clear hcz21_4
 try clear hcz22_0
 try clear hcz22_1
 try clear hcz22_2
 try clear hcz22_3
 try clear hcz22_4
 try clear hcz32_0
 try clear hcz32_1
 try clear hcz32_2
 try clear hcz32_3
 try clear hcz32_4
 try clear hcz7_0
 try clear hcz7_1
 try clear hcz7_2
 try clear hcz7_3
 try clear hcz7_4
 try clear hcz9_0
 try clear hcz9_1
 try clear hcz9_2
 try clear hcz9_3
 try clear hcz9_4
 try clear hfz10_0
 try clear hfz10_1
 try clear hfz10_2
 try clear hfz10_3
 try clear hfz10_4
 try clear hfz12_0
 try clear hfz12_1
 try clear hfz12_2
 try clear hfz12_3
 try clear hfz12_4
 try clear hfz13_0
 try clear hfz13_1
 try clear hfz13_2
 try clear hfz13_3
 try clear hfz13_4
 try clear hfz18_0
 try clear hfz18_1
 try clear hfz18_2
 try clear hfz18_3
 try clear hfz18_4
 try clear hfz21_0
 try clear hfz21_1
 try clear hfz21_2
 try clear hfz21_3
 try clear hfz21_4
 try clear hfz22_0
 try clear hfz22_1
 try clear hfz22_2
 try clear hfz22_3
 try clear hfz22_4
 try clear hfz32_0
 try clear hfz32_1
 try clear hfz32_2
 try clear hfz32_3
 try clear hfz32_4
 try clear hfz7_0
 try clear hfz7_1
 try clear hfz7_2
 try clear hfz7_3
 try clear hfz7_4
 try clear hfz9_0
 try clear hfz9_1
 try clear hfz9_2
 try clear hfz9_3
 try clear hfz9_4
 try clear hxz3_0
 try clear hxz3_1
 try clear hxz4_0
 try clear hxz4_1
 try clear hxz5_0
 try clear hxz5_1
 try clear hxz6_0
 try clear hxz6_1
 try clear p2
 try clear p3
 try clear pz3
 try clear pz4
 try clear pz5
 try clear pz6
 try clear q3
 try clear qz3
 try clear qz4
 try clear qz5
 try clear qz6
 obtain ⟨x5_3, rfl, HA, HK3, BKz1, HB⟩ := hrel
 cases gk with
 | zero => exact absurd HA.out (by simp [r8_Right.l2])
 | succ k3 => ?_
 have H := HA.out
 clear HA
 simp only [r8_Right.l2] at H
 by_cases c33 : x5_3 < (l0_3.length : Int)
 rotate_left
 ·rw [if_neg c33] at H
  have c33b0 : decide (x5_3 < (l0_3.length : Int)) = false := decide_eq_false c33
  clear c33
  replace H := ob_ H
  obtain ⟨tz7, A570, H⟩ := H
  replace H : (some (a0_4 == tz7)) = some r := H
  have A57 := Aside0.mk A570
  clear A570
  obtain rfl := Option.some.inj H
  obtain ⟨hcz58_0, hcz58_1, hcz58_2, hcz58_3, hcz58_4⟩ := bc5 BKz1
  obtain ⟨hfz58_0, hfz58_1, hfz58_2, hfz58_3, hfz58_4⟩ := bf5 BKz1
  try go_wp2
  have n0_ := am (bkD BKz1.out)
  have n1_ := am (below_drew1 HB.out)
  clear BKz1 HB; have BKz1 := n0_; have HB := n1_; clear n0_ n1_
  refine start_ (n := 6) (S := fun w' => w'.cell? ⟨gbz1, 0, none⟩ = some (.string a0_0) ∧ w'.cell? ⟨gbz1, 1, none⟩ = some (.int .i64 a0_1) ∧ w'.cell? ⟨gbz1, 2, none⟩ = some (.slice A0_2 l0_2.length c0_2) ∧ w'.cell? ⟨gbz1, 3, none⟩ = some (.slice A0_3 l0_3.length c0_3) ∧ w'.cell? ⟨gbz1, 4, none⟩ = some (.bool a0_4)) (ds := []) #[false, false, false, false, false, false] (by kernel_rfl) rfl rfl (bc5 BKz1) (fun hHeld => ?_)
  generalize wr.drew = w59 at BKz1 HB hHeld ⊢
  refine pn_ 0 (some 120) rfl rfl (.inl ⟨by rfl, by intro w'; go_simp; with_reducible rfl⟩) (by simp only [Act.put, sa_, s0_, s1_, i64_w, i32_w]; rfl) ?_
  refine tn_ 1 (some 121) rfl rfl (.inl ⟨by rfl, by rintro w' ⟨s0, s1, s2, s3, s4⟩; go_simp; with_reducible rfl⟩) hHeld (by simp only [Act.put, sa_, s0_, s1_, i64_w, i32_w]; rfl) ?_
  refine tn_ 2 (some 122) rfl rfl (.inl ⟨by rfl, by rintro w' ⟨s0, s1, s2, s3, s4⟩; go_simp; with_reducible rfl⟩) hHeld (by simp only [Act.put, sa_, s0_, s1_, i64_w, i32_w]; rfl) ?_
  refine one_ (i := 3) (N := some 123) #[true, true, true, true, false, false] rfl rfl (by kernel_rfl) (by decide) (fun K hK => ?_)
  refine goes_ Try.func54 (by kernel_rfl) rfl #[.agg #[.string a0_0, .int .i64 a0_1, .slice A0_2 l0_2.length c0_2, .slice A0_3 l0_3.length c0_3, .bool a0_4]] (by rfl) rfl rfl (by (try simp only [List.map_toArray, List.map_cons, List.map_nil]) <;> rfl) ?_
  with_reducible refine (r8_clash.calls k3 a0_0 a0_1 _ _ l0_2 _ _ l0_3 a0_4 tz7 _ ?side1 ?side2 ?side3 ?side4 A57.out).mono ?_
  (case side1 => repeat (first | exact (Kd.C_below HR0_2.out HB.out) | (with_reducible refine Kd.C_alloc ?_ _) | (with_reducible refine Kd.C_drewN ?_ _) | (with_reducible refine Kd.C_drew ?_)))
  (case side2 => exact HC0_2.out)
  (case side3 => repeat (first | exact (Kd.C_below HR0_3.out HB.out) | (with_reducible refine Kd.C_alloc ?_ _) | (with_reducible refine Kd.C_drewN ?_ _) | (with_reducible refine Kd.C_drew ?_)))
  (case side4 => exact HC0_3.out)
  rintro e w60 ⟨rfl, hb⟩
  refine ⟨_, rfl, ?_⟩
  have n0_ := am (bkB (pk BKz1) hb)
  have n1_ := am (below_step (sC_ HB) hb)
  clear BKz1 HB; have BKz1 := n0_; have HB := n1_; clear n0_ n1_; refine hK.out _ _ (bc5 BKz1) (fun hHeld => ?_)
  clear hK K
  refine norm_ (by show Act.put _ (some 123) _ = _; simp only [Act.put, sa_, s0_, s1_, i64_w, i32_w]; rfl) ?_
  refine pn_ 4 (some 124) rfl rfl (.inl ⟨by rfl, by intro w'; go_simp; with_reducible rfl⟩) (by simp only [Act.put, sa_, s0_, s1_, i64_w, i32_w]; rfl) ?_
  refine pn_ 5 (some 2) rfl rfl (.inl ⟨by rfl, by intro w'; go_simp; with_reducible rfl⟩) (by simp only [Act.put, sa_, s0_, s1_, i64_w, i32_w]; rfl) ?_
  refine done_ (by kernel_rfl) ?_
  try go_wp2
  go_ret
  exact ⟨by first | rfl | (simp <;> rfl) | (simp [*] <;> rfl), sC_ HB⟩
 rw [if_pos c33] at H
 have c33b0 : decide (x5_3 < (l0_3.length : Int)) = true := decide_eq_true c33
 clear c33
 by_cases c34 : 0 ≤ x5_3
 rotate_left
 ·rw [if_neg c34] at H
  exact absurd H (by simp)
 rw [if_pos c34] at H
 have c34b0 : decide (0 ≤ x5_3) = true := decide_eq_true c34
 clear c34
 have HC35 := am H
 clear H
 obtain ⟨hcz36_0, hcz36_1, hcz36_2, hcz36_3, hcz36_4⟩ := bc5 BKz1
 obtain ⟨hfz36_0, hfz36_1, hfz36_2, hfz36_3, hfz36_4⟩ := bf5 BKz1
 have pz8 : 0 ≤ (x5_3 : Int) := of_decide_eq_true (by first | (with_reducible assumption) | assumption)
 have qz8 : x5_3 < (l0_3.length : Int) := of_decide_eq_true (by first | (with_reducible assumption) | assumption)
 obtain ⟨adz8, ez8, hxz8_0, hxz8_1, hxz8_2⟩ := at_T74 HR0_3.out x5_3 pz8 qz8
 cases ez8
 replace hxz8_0 := (HB.out.cell (World.block_lt_of_cell? w _ hxz8_0)).trans hxz8_0
 replace hxz8_1 := (HB.out.cell (World.block_lt_of_cell? w _ hxz8_1)).trans hxz8_1
 replace hxz8_2 := (HB.out.cell (World.block_lt_of_cell? w _ hxz8_2)).trans hxz8_2
 replace pz8 := eq_true pz8
 replace qz8 := eq_true qz8
 go_upto_region 17 with (first | ((with_reducible refine gate_dst (N := 6) rfl ?_); (try (refine gate_guard (by rfl) ?_; dsimp only)); refine box_event ?hg (N := 6) ?hd (cs := #[.string (⟨#[]⟩ : ByteArray), .string (⟨#[]⟩ : ByteArray), .string (⟨#[]⟩ : ByteArray)]) (t := 74) ?hr ?_; (case hd => rfl); (case hg => rfl); (case hr => first | (go_simp; done) | (go_simp; rfl)); intro gbz9 hg w37 hbox hb; have n0_ := am (bkB (pk BKz1) hb); have n1_ := am (below_step (sC_ HB) hb); have n2_ := am (hbox); have n3_ := ge_ hg (sC_ HB); have n4_ := ge_ hg (sC_ HB); have n5_ := nl_ hg BKz1; have n6_ := ng_ hg BKz1; clear BKz1; clear HB; have BKz1 := n0_; have HB := n1_; have BKz9 := n2_; have GWz9 := n3_; have GEz9 := n4_; have NBz1_z9 := n5_; have NBz9_z1 := n6_; clear n0_ n1_ n2_ n3_ n4_ n5_ n6_; clear hb hbox hg; have hnb38 := NBz9_z1.out; have hnc38 := NBz1_z9.out; obtain ⟨hcz39_0, hcz39_1, hcz39_2⟩ := bc3 BKz9; obtain ⟨hfz39_0, hfz39_1, hfz39_2⟩ := bf3 BKz9))
 (try simp only [Act.put, List.setIfInBounds_toArray, List.set_cons_zero, List.set_cons_succ])
 go_cut [94] (fun v94 wc => ∃ (kq : Nat) (x94_34 : Bool), v94 = .bool x94_34 ∧ Aside0 (r8_Right.j5 kq x5_3 x94_34 a0_0 a0_1 l0_2 l0_3 a0_4 ((rd_T74 l0_3 x5_3).f0) ((rd_T74 l0_3 x5_3).f1) ((rd_T74 l0_3 x5_3).f2) = some r) ∧ Aside0 (kq ≤ k3) ∧ Aside0 (wc.heap[gbz1]? = some (.cells #[.string a0_0, .int .i64 a0_1, (.slice A0_2 l0_2.length c0_2), (.slice (some adz8) l0_3.length c0_3), .bool a0_4] 50 (0, 0))) ∧ Aside0 (wc.heap[gbz9]? = some (.cells #[.string ((rd_T74 l0_3 x5_3).f0), .string ((rd_T74 l0_3 x5_3).f1), .string ((rd_T74 l0_3 x5_3).f2)] 74 (0, 0))) ∧ Aside0 (Below w.heap.size w wc))
 case first =>
  have H := HC35.out
  clear HC35
  by_cases c40 : (((rd_T74 l0_3 x5_3).f0).size : Int) = 16
  rotate_left
  ·rw [if_neg c40] at H
   have c40b0 : ((((rd_T74 l0_3 x5_3).f0).size : Int) == 16) = false := beq_eq_false_iff_ne.mpr c40
   have c40b1 : ((((rd_T74 l0_3 x5_3).f0).size : Int) != 16) = true := bne_iff_ne.mpr c40
   (first | rw [c40b0] | rw [c40b1] | (simp only [i64_w, i32_w]; rw [c40b0]) | skip)
   have H' := am H
   clear H
   have hnb46 := NBz9_z1.out
   have hnc46 := NBz1_z9.out
   obtain ⟨hcz47_0, hcz47_1, hcz47_2⟩ := bc3 BKz9
   obtain ⟨hfz47_0, hfz47_1, hfz47_2⟩ := bf3 BKz9
   go_wp2
   go_meet
   case rel => exact ⟨_, (true), (by first | rfl | (simp; done) | (simp [*]; done)), H', ⟨by have := HJ1.out; have := HK2.out; have := HK3.out; first | omega | exact Nat.le_refl _⟩, ⟨by (with_reducible repeat (first | refine blk_drewN ?_ _ | refine bkD ?_ | refine bkA ?_ _)); refine blk_far ?_ NBz1_z9.out _; refine blk_far ?_ NBz1_z9.out _; refine blk_far ?_ NBz1_z9.out _; (with_reducible repeat (first | refine blk_drewN ?_ _ | refine bkD ?_ | refine bkA ?_ _)); exact BKz1.out⟩, ⟨by (with_reducible repeat (first | refine blk_drewN ?_ _ | refine bkD ?_ | refine bkA ?_ _)); apply bp3; (with_reducible repeat (first | refine blk_drewN ?_ _ | refine bkD ?_ | refine bkA ?_ _)); exact BKz9.out⟩, (sB_ HB)⟩
  rw [if_pos c40] at H
  have c40b0 : ((((rd_T74 l0_3 x5_3).f0).size : Int) == 16) = true := beq_iff_eq.mpr c40
  have c40b1 : ((((rd_T74 l0_3 x5_3).f0).size : Int) != 16) = false := bne_eq_false_iff_eq.mpr c40
  clear c40
  (first | rw [c40b0] | rw [c40b1] | (simp only [i64_w, i32_w]; rw [c40b0]) | skip)
  by_cases c41 : (((rd_T74 l0_3 x5_3).f1).size : Int) = 24
  rotate_left
  ·rw [if_neg c41] at H
   have c41b0 : ((((rd_T74 l0_3 x5_3).f1).size : Int) == 24) = false := beq_eq_false_iff_ne.mpr c41
   have c41b1 : ((((rd_T74 l0_3 x5_3).f1).size : Int) != 24) = true := bne_iff_ne.mpr c41
   have H' := am H
   clear H
   have hnb44 := NBz9_z1.out
   have hnc44 := NBz1_z9.out
   obtain ⟨hcz45_0, hcz45_1, hcz45_2⟩ := bc3 BKz9
   obtain ⟨hfz45_0, hfz45_1, hfz45_2⟩ := bf3 BKz9
   go_wp2
   go_meet
   case rel => exact ⟨_, (true), (by first | rfl | (simp; done) | (simp [*]; done)), H', ⟨by have := HJ1.out; have := HK2.out; have := HK3.out; first | omega | exact Nat.le_refl _⟩, ⟨by (with_reducible repeat (first | refine blk_drewN ?_ _ | refine bkD ?_ | refine bkA ?_ _)); refine blk_far ?_ NBz1_z9.out _; refine blk_far ?_ NBz1_z9.out _; refine blk_far ?_ NBz1_z9.out _; (with_reducible repeat (first | refine blk_drewN ?_ _ | refine bkD ?_ | refine bkA ?_ _)); exact BKz1.out⟩, ⟨by (with_reducible repeat (first | refine blk_drewN ?_ _ | refine bkD ?_ | refine bkA ?_ _)); apply bp3; (with_reducible repeat (first | refine blk_drewN ?_ _ | refine bkD ?_ | refine bkA ?_ _)); exact BKz9.out⟩, (sB_ HB)⟩
  rw [if_pos c41] at H
  have c41b0 : ((((rd_T74 l0_3 x5_3).f1).size : Int) == 24) = true := beq_iff_eq.mpr c41
  have c41b1 : ((((rd_T74 l0_3 x5_3).f1).size : Int) != 24) = false := bne_eq_false_iff_eq.mpr c41
  clear c41
  have H' := am H
  clear H
  have hnb42 := NBz9_z1.out
  have hnc42 := NBz1_z9.out
  obtain ⟨hcz43_0, hcz43_1, hcz43_2⟩ := bc3 BKz9
  obtain ⟨hfz43_0, hfz43_1, hfz43_2⟩ := bf3 BKz9
  go_wp2
  go_meet
  case rel => exact ⟨_, (((((rd_T74 l0_3 x5_3).f2).size : Int) != 40)), (by first | rfl | (simp; done) | (simp [*]; done)), H', ⟨by have := HJ1.out; have := HK2.out; have := HK3.out; first | omega | exact Nat.le_refl _⟩, ⟨by (with_reducible repeat (first | refine blk_drewN ?_ _ | refine bkD ?_ | refine bkA ?_ _)); refine blk_far ?_ NBz1_z9.out _; refine blk_far ?_ NBz1_z9.out _; refine blk_far ?_ NBz1_z9.out _; (with_reducible repeat (first | refine blk_drewN ?_ _ | refine bkD ?_ | refine bkA ?_ _)); exact BKz1.out⟩, ⟨by (with_reducible repeat (first | refine blk_drewN ?_ _ | refine bkD ?_ | refine bkA ?_ _)); apply bp3; (with_reducible repeat (first | refine blk_drewN ?_ _ | refine bkD ?_ | refine bkA ?_ _)); exact BKz9.out⟩, (sB_ HB)⟩
 clear HC35
 try clear c1
 try clear c2
 try clear p2
 try clear c3
 try clear p3
 try clear q3
 try clear hx3
 try clear c4
 try clear c5
 try clear c6
 try clear c6b0
 try clear c6b1
 try clear p6
 try clear c15
 try clear c16
 try clear c16b0
 try clear c17
 try clear c19
 try clear c19b0
 try clear c19b1
 try clear c20
 try clear c20b0
 try clear c20b1
 try clear c23
 try clear c24
 try clear c24b0
 try clear c25
 try clear c25b0
 try clear c26
 try clear c26b0
 try clear c27
 try clear c27b0
 try clear c28
 try clear c28b0
 try clear c29
 try clear c29b0
 try clear c29b1
 try clear c33
 try clear c33b0
 try clear c34
 try clear c34b0
 try clear c38
 try clear p38
 try clear q38
 try clear hx38
 try clear c40
 try clear c40b0
 try clear c40b1
 try clear c41
 try clear c41b0
 try clear c41b1
 try clear c42
 try clear c44
 try clear c46
 try clear hcz10_0
 try clear hcz10_1
 try clear hcz10_2
 try clear hcz10_3
 try clear hcz10_4
 try clear hcz12_0
 try clear hcz12_1
 try clear hcz12_2
 try clear hcz12_3
 try clear hcz12_4
 try clear hcz13_0
 try clear hcz13_1
 try clear hcz13_2
 try clear hcz13_3
 try clear hcz13_4
 try clear hcz18_0
 try clear hcz18_1
 try clear hcz18_2
 try clear hcz18_3
 try clear hcz18_4
 try clear hcz21_0
 try clear hcz21_1
 try clear hcz21_2
 try clear hcz21_3
 try clear hcz21_4
 try clear hcz22_0
 try clear hcz22_1
 try clear hcz22_2
 try clear hcz22_3
 try clear hcz22_4
 try clear hcz32_0
 try clear hcz32_1
 try clear hcz32_2
 try clear hcz32_3
 try clear hcz32_4
 try clear hcz36_0
 try clear hcz36_1
 try clear hcz36_2
 try clear hcz36_3
 try clear hcz36_4
 try clear hcz39_0
 try clear hcz39_1
 try clear hcz39_2
 try clear hcz43_0
 try clear hcz43_1
 try clear hcz43_2
 try clear hcz45_0
 try clear hcz45_1
 try clear hcz45_2
 try clear hcz47_0
 try clear hcz47_1
 try clear hcz47_2
 try clear hcz7_0
 try clear hcz7_1
 try clear hcz7_2
 try clear hcz7_3
 try clear hcz7_4
 try clear hcz9_0
 try clear hcz9_1
 try clear hcz9_2
 try clear hcz9_3
 try clear hcz9_4
 try clear hfz10_0
 try clear hfz10_1
 try clear hfz10_2
 try clear hfz10_3
 try clear hfz10_4
 try clear hfz12_0
 try clear hfz12_1
 try clear hfz12_2
 try clear hfz12_3
 try clear hfz12_4
 try clear hfz13_0
 try clear hfz13_1
 try clear hfz13_2
 try clear hfz13_3
 try clear hfz13_4
 try clear hfz18_0
 try clear hfz18_1
 try clear hfz18_2
 try clear hfz18_3
 try clear hfz18_4
 try clear hfz21_0
 try clear hfz21_1
 try clear hfz21_2
 try clear hfz21_3
 try clear hfz21_4
 try clear hfz22_0
 try clear hfz22_1
 try clear hfz22_2
 try clear hfz22_3
 try clear hfz22_4
 try clear hfz32_0
 try clear hfz32_1
 try clear hfz32_2
 try clear hfz32_3
 try clear hfz32_4
 try clear hfz36_0
 try clear hfz36_1
 try clear hfz36_2
 try clear hfz36_3
 try clear hfz36_4
 try clear hfz39_0
 try clear hfz39_1
 try clear hfz39_2
 try clear hfz43_0
 try clear hfz43_1
 try clear hfz43_2
 try clear hfz45_0
 try clear hfz45_1
 try clear hfz45_2
 try clear hfz47_0
 try clear hfz47_1
 try clear hfz47_2
 try clear hfz7_0
 try clear hfz7_1
 try clear hfz7_2
 try clear hfz7_3
 try clear hfz7_4
 try clear hfz9_0
 try clear hfz9_1
 try clear hfz9_2
 try clear hfz9_3
 try clear hfz9_4
 try clear hxz3_0
 try clear hxz3_1
 try clear hxz4_0
 try clear hxz4_1
 try clear hxz5_0
 try clear hxz5_1
 try clear hxz6_0
 try clear hxz6_1
 try clear hxz8_0
 try clear hxz8_1
 try clear hxz8_2
 try clear p2
 try clear p3
 try clear pz3
 try clear pz4
 try clear pz5
 try clear pz6
 try clear pz8
 try clear p6
 try clear q3
 try clear qz3
 try clear qz4
 try clear qz5
 try clear qz6
 try clear qz8
 obtain ⟨kq, x94_34, rfl, HA, HJ34, BKz1, BKz9, HB⟩ := hcut
 cases kq with
 | zero => exact absurd HA.out (by simp [r8_Right.j5])
 | succ kj34 => ?_
 have H := HA.out
 clear HA
 simp only [r8_Right.j5] at H
 by_cases c48 : x94_34 = true
 ·subst c48
  have H1 : (some false) = some r := by rw [if_pos rfl] at H; exact H
  clear H
  have H := H1
  clear H1
  obtain rfl := Option.some.inj H
  go_wp2
  go_ret
  exact ⟨by first | rfl | (simp <;> rfl) | (simp [*] <;> rfl), sC_ HB⟩
 replace c48 := Bool.eq_false_iff.mpr c48
 subst c48
 have H1 : (r8_Right.l3 kj34 x5_3 0 a0_0 a0_1 l0_2 l0_3 a0_4 ((rd_T74 l0_3 x5_3).f0) ((rd_T74 l0_3 x5_3).f1) ((rd_T74 l0_3 x5_3).f2)) = some r := by rw [if_neg (show ¬ (false = true) by decide)] at H; exact H
 clear H
 have H := H1
 clear H1
 have H' := am H
 clear H
 go_wp2
 go_loopg [7] kj34 (fun kq v7 w' => ∃ (x7_5 : Int), v7 = .int .i64 x7_5 ∧ Aside0 (r8_Right.l3 kq x5_3 x7_5 a0_0 a0_1 l0_2 l0_3 a0_4 ((rd_T74 l0_3 x5_3).f0) ((rd_T74 l0_3 x5_3).f1) ((rd_T74 l0_3 x5_3).f2) = some r) ∧ Aside0 (kq ≤ kj34) ∧ Aside0 (w'.heap[gbz1]? = some (.cells #[.string a0_0, .int .i64 a0_1, (.slice A0_2 l0_2.length c0_2), (.slice (some adz8) l0_3.length c0_3), .bool a0_4] 50 (0, 0))) ∧ Aside0 (w'.heap[gbz9]? = some (.cells #[.string ((rd_T74 l0_3 x5_3).f0), .string ((rd_T74 l0_3 x5_3).f1), .string ((rd_T74 l0_3 x5_3).f2)] 74 (0, 0))) ∧ Aside0 (Below w.heap.size w w'))
 case atStart => exact ⟨(0), (by first | rfl | (simp; done) | (simp [*]; done)), H', ⟨Nat.le_refl _⟩, (sk_ BKz1), (sk_ BKz9), (sB_ HB)⟩
 clear H'
 try clear c1
 try clear c2
 try clear p2
 try clear c3
 try clear p3
 try clear q3
 try clear hx3
 try clear c4
 try clear c5
 try clear c6
 try clear c6b0
 try clear c6b1
 try clear p6
 try clear c15
 try clear c16
 try clear c16b0
 try clear c17
 try clear c19
 try clear c19b0
 try clear c19b1
 try clear c20
 try clear c20b0
 try clear c20b1
 try clear c23
 try clear c24
 try clear c24b0
 try clear c25
 try clear c25b0
 try clear c26
 try clear c26b0
 try clear c27
 try clear c27b0
 try clear c28
 try clear c28b0
 try clear c29
 try clear c29b0
 try clear c29b1
 try clear c33
 try clear c33b0
 try clear c34
 try clear c34b0
 try clear c38
 try clear p38
 try clear q38
 try clear hx38
 try clear c40
 try clear c40b0
 try clear c40b1
 try clear c41
 try clear c41b0
 try clear c41b1
 try clear c42
 try clear c44
 try clear c46
 try clear c48
 try clear hcz10_0
 try clear hcz10_1
 try clear hcz10_2
 try clear hcz10_3
 try clear hcz10_4
 try clear hcz12_0
 try clear hcz12_1
 try clear hcz12_2
 try clear hcz12_3
 try clear hcz12_4
 try clear hcz13_0
 try clear hcz13_1
 try clear hcz13_2
 try clear hcz13_3
 try clear hcz13_4
 try clear hcz18_0
 try clear hcz18_1
 try clear hcz18_2
 try clear hcz18_3
 try clear hcz18_4
 try clear hcz21_0
 try clear hcz21_1
 try clear hcz21_2
 try clear hcz21_3
 try clear hcz21_4
 try clear hcz22_0
 try clear hcz22_1
 try clear hcz22_2
 try clear hcz22_3
 try clear hcz22_4
 try clear hcz32_0
 try clear hcz32_1
 try clear hcz32_2
 try clear hcz32_3
 try clear hcz32_4
 try clear hcz36_0
 try clear hcz36_1
 try clear hcz36_2
 try clear hcz36_3
 try clear hcz36_4
 try clear hcz39_0
 try clear hcz39_1
 try clear hcz39_2
 try clear hcz43_0
 try clear hcz43_1
 try clear hcz43_2
 try clear hcz45_0
 try clear hcz45_1
 try clear hcz45_2
 try clear hcz47_0
 try clear hcz47_1
 try clear hcz47_2
 try clear hcz7_0
 try clear hcz7_1
 try clear hcz7_2
 try clear hcz7_3
 try clear hcz7_4
 try clear hcz9_0
 try clear hcz9_1
 try clear hcz9_2
 try clear hcz9_3
 try clear hcz9_4
 try clear hfz10_0
 try clear hfz10_1
 try clear hfz10_2
 try clear hfz10_3
 try clear hfz10_4
 try clear hfz12_0
 try clear hfz12_1
 try clear hfz12_2
 try clear hfz12_3
 try clear hfz12_4
 try clear hfz13_0
 try clear hfz13_1
 try clear hfz13_2
 try clear hfz13_3
 try clear hfz13_4
 try clear hfz18_0
 try clear hfz18_1
 try clear hfz18_2
 try clear hfz18_3
 try clear hfz18_4
 try clear hfz21_0
 try clear hfz21_1
 try clear hfz21_2
 try clear hfz21_3
 try clear hfz21_4
 try clear hfz22_0
 try clear hfz22_1
 try clear hfz22_2
 try clear hfz22_3
 try clear hfz22_4
 try clear hfz32_0
 try clear hfz32_1
 try clear hfz32_2
 try clear hfz32_3
 try clear hfz32_4
 try clear hfz36_0
 try clear hfz36_1
 try clear hfz36_2
 try clear hfz36_3
 try clear hfz36_4
 try clear hfz39_0
 try clear hfz39_1
 try clear hfz39_2
 try clear hfz43_0
 try clear hfz43_1
 try clear hfz43_2
 try clear hfz45_0
 try clear hfz45_1
 try clear hfz45_2
 try clear hfz47_0
 try clear hfz47_1
 try clear hfz47_2
 try clear hfz7_0
 try clear hfz7_1
 try clear hfz7_2
 try clear hfz7_3
 try clear hfz7_4
 try clear hfz9_0
 try clear hfz9_1
 try clear hfz9_2
 try clear hfz9_3
 try clear hfz9_4
 try clear hxz3_0
 try clear hxz3_1
 try clear hxz4_0
 try clear hxz4_1
 try clear hxz5_0
 try clear hxz5_1
 try clear hxz6_0
 try clear hxz6_1
 try clear hxz8_0
 try clear hxz8_1
 try clear hxz8_2
 try clear p2
 try clear p3
 try clear p38
 try clear pz3
 try clear pz4
 try clear pz5
 try clear pz6
 try clear pz8
 try clear p6
 try clear q3
 try clear q38
 try clear qz3
 try clear qz4
 try clear qz5
 try clear qz6
 try clear qz8
 obtain ⟨x7_5, rfl, HA, HK5, BKz1, BKz9, HB⟩ := hrel
 cases gk with
 | zero => exact absurd HA.out (by simp [r8_Right.l3])
 | succ k5 => ?_
 have H := HA.out
 clear HA
 simp only [r8_Right.l3] at H
 by_cases c49 : x7_5 < x5_3
 rotate_left
 ·rw [if_neg c49] at H
  have c49b0 : decide (x7_5 < x5_3) = false := decide_eq_false c49
  clear c49
  have H' := am H
  clear H
  go_wp2
  go_roundg k5
  case measure => have := HJ1.out; have := HK2.out; have := HK3.out; have := HJ34.out; have := HK5.out; omega
  case rel => exact ⟨(wrap64 (x5_3 + 1)), (by first | rfl | (simp; done) | (simp [*]; done)), H', ⟨by have := HJ1.out; have := HK2.out; have := HK3.out; have := HJ34.out; have := HK5.out; omega⟩, (sk_ BKz1), (sB_ HB)⟩
 rw [if_pos c49] at H
 have c49b0 : decide (x7_5 < x5_3) = true := decide_eq_true c49
 clear c49
 by_cases c50 : 0 ≤ x7_5
 rotate_left
 ·rw [if_neg c50] at H
  exact absurd H (by simp)
 rw [if_pos c50] at H
 have c50b0 : decide (0 ≤ x7_5) = true := decide_eq_true c50
 clear c50
 by_cases c51 : x7_5 < (l0_3.length : Int)
 rotate_left
 ·rw [if_neg c51] at H
  exact absurd H (by simp)
 rw [if_pos c51] at H
 have c51b0 : decide (x7_5 < (l0_3.length : Int)) = true := decide_eq_true c51
 clear c51
 by_cases c52 : ((rd_T74 l0_3 x5_3).f0).toList = ((rd_T74 l0_3 x7_5).f0).toList
 rotate_left
 ·rw [if_neg c52] at H
  have c52b0 : (((rd_T74 l0_3 x5_3).f0).toList == ((rd_T74 l0_3 x7_5).f0).toList) = false := beq_eq_false_iff_ne.mpr c52
  have c52b1 : (((rd_T74 l0_3 x5_3).f0).toList != ((rd_T74 l0_3 x7_5).f0).toList) = true := bne_iff_ne.mpr c52
  have H' := am H
  clear H
  try go_wp2
  have n0_ := am (bkD BKz1.out)
  have n1_ := am (bkD BKz9.out)
  have n2_ := am (below_drew1 HB.out)
  clear BKz1 BKz9 HB; have BKz1 := n0_; have BKz9 := n1_; have HB := n2_; clear n0_ n1_ n2_
  have pz10 : 0 ≤ (x7_5 : Int) := of_decide_eq_true (by first | (with_reducible assumption) | assumption)
  have qz10 : x7_5 < (l0_3.length : Int) := of_decide_eq_true (by first | (with_reducible assumption) | assumption)
  obtain ⟨adz10, ez10, hxz10_0, hxz10_1, hxz10_2⟩ := at_T74 HR0_3.out x7_5 pz10 qz10
  have hwz10_2 := hxz10_2
  have hwz10_1 := hxz10_1
  have hwz10_0 := hxz10_0
  obtain rfl : adz8 = adz10 := (by injection ez10)
  replace hxz10_0 := (HB.out.cell (World.block_lt_of_cell? w _ hxz10_0)).trans hxz10_0
  replace hxz10_1 := (HB.out.cell (World.block_lt_of_cell? w _ hxz10_1)).trans hxz10_1
  replace hxz10_2 := (HB.out.cell (World.block_lt_of_cell? w _ hxz10_2)).trans hxz10_2
  replace pz10 := eq_true pz10
  replace qz10 := eq_true qz10
  refine start_ (n := 20) (S := fun w' => w'.cell? ⟨gbz9, 0, none⟩ = some (.string ((rd_T74 l0_3 x5_3).f0)) ∧ w'.cell? ⟨gbz9, 1, none⟩ = some (.string ((rd_T74 l0_3 x5_3).f1)) ∧ w'.cell? ⟨gbz9, 2, none⟩ = some (.string ((rd_T74 l0_3 x5_3).f2)) ∧ w'.cell? ⟨gbz1, 0, none⟩ = some (.string a0_0) ∧ w'.cell? ⟨gbz1, 1, none⟩ = some (.int .i64 a0_1) ∧ w'.cell? ⟨gbz1, 2, none⟩ = some (.slice A0_2 l0_2.length c0_2) ∧ w'.cell? ⟨gbz1, 3, none⟩ = some (.slice (some adz8) l0_3.length c0_3) ∧ w'.cell? ⟨gbz1, 4, none⟩ = some (.bool a0_4) ∧ w'.cell? (adz8.add ((x7_5).toNat * 3)) = some (.string ((rd_T74 l0_3 x7_5).f0)) ∧ w'.cell? ⟨(adz8.add ((x7_5).toNat * 3)).block, (adz8.add ((x7_5).toNat * 3)).off + 1, none⟩ = some (.string ((rd_T74 l0_3 x7_5).f1)) ∧ w'.cell? ⟨(adz8.add ((x7_5).toNat * 3)).block, (adz8.add ((x7_5).toNat * 3)).off + 2, none⟩ = some (.string ((rd_T74 l0_3 x7_5).f2))) (ds := []) #[false, false, false, false, false, false, false, false, false, false, false, false, false, false, false, false, false, false, false, false] (by kernel_rfl) rfl rfl ⟨(blk_cell BKz9.out 0).trans rfl, (blk_cell BKz9.out 1).trans rfl, (blk_cell BKz9.out 2).trans rfl, (blk_cell BKz1.out 0).trans rfl, (blk_cell BKz1.out 1).trans rfl, (blk_cell BKz1.out 2).trans rfl, (blk_cell BKz1.out 3).trans rfl, (blk_cell BKz1.out 4).trans rfl, ((HB.out.cell (World.block_lt_of_cell? w _ hwz10_0)).trans hwz10_0), ((HB.out.cell (World.block_lt_of_cell? w _ hwz10_1)).trans hwz10_1), ((HB.out.cell (World.block_lt_of_cell? w _ hwz10_2)).trans hwz10_2)⟩ (fun hHeld => ?_); refine with_tabW r8_Right.tab22 r8_Right.bits22 (fun HT_ HW_ => ?_)
  generalize wr.drew = w56 at BKz1 BKz9 HB hxz10_0 hxz10_1 hxz10_2 hHeld ⊢
  refine pv_ 0 (some 100) HT_ ?_
  refine pv_ 2 (some 102) HT_ ?_
  refine pv_ 4 (some 104) HT_ ?_
  refine tk_ 1 (some 101) HT_ HW_ rfl rfl (.inl ⟨by rfl, by rintro w' ⟨s0, s1, s2, s3, s4, s5, s6, s7, s8, s9, s10⟩; go_simp; with_reducible rfl⟩) hHeld (by simp only [Act.put, sa_, s0_, s1_, i64_w, i32_w]; rfl) ?_
  refine tk_ 3 (some 103) HT_ HW_ rfl rfl (.inl ⟨by rfl, by rintro w' ⟨s0, s1, s2, s3, s4, s5, s6, s7, s8, s9, s10⟩; go_simp; with_reducible rfl⟩) hHeld (by simp only [Act.put, sa_, s0_, s1_, i64_w, i32_w]; rfl) ?_
  refine pv_ 5 (some 105) HT_ ?_
  refine pv_ 6 (some 106) HT_ ?_
  refine tk_ 7 (some 107) HT_ HW_ rfl rfl (.inl ⟨by rfl, by rintro w' ⟨s0, s1, s2, s3, s4, s5, s6, s7, s8, s9, s10⟩; go_simp; with_reducible rfl⟩) hHeld (by simp only [Act.put, sa_, s0_, s1_, i64_w, i32_w]; rfl) ?_
  refine pv_ 8 (some 108) HT_ ?_
  refine pv_ 9 (some 109) HT_ ?_
  refine pu_ (v := undef) 10 (some 110) HT_ rfl rfl (.inr ⟨by rfl, rfl⟩) (by simp only [Act.put, sa_, s0_, s1_, i64_w, i32_w]; rfl) ?_
  refine pu_ (v := undef) 11 (some 111) HT_ rfl rfl (.inr ⟨by rfl, rfl⟩) (by simp only [Act.put, sa_, s0_, s1_, i64_w, i32_w]; rfl) ?_
  refine pu_ (v := undef) 12 (some 112) HT_ rfl rfl (.inr ⟨by rfl, rfl⟩) (by simp only [Act.put, sa_, s0_, s1_, i64_w, i32_w]; rfl) ?_
  refine pu_ (v := undef) 13 (some 113) HT_ rfl rfl (.inr ⟨by rfl, rfl⟩) (by simp only [Act.put, sa_, s0_, s1_, i64_w, i32_w]; rfl) ?_
  refine pu_ (v := undef) 14 (some 114) HT_ rfl rfl (.inr ⟨by rfl, rfl⟩) (by simp only [Act.put, sa_, s0_, s1_, i64_w, i32_w]; rfl) ?_
  refine pu_ (v := undef) 15 (some 115) HT_ rfl rfl (.inr ⟨by rfl, rfl⟩) (by simp only [Act.put, sa_, s0_, s1_, i64_w, i32_w]; rfl) ?_
  refine pu_ (v := undef) 16 (some 116) HT_ rfl rfl (.inr ⟨by rfl, rfl⟩) (by simp only [Act.put, sa_, s0_, s1_, i64_w, i32_w]; rfl) ?_
  refine pu_ (v := undef) 17 (some 117) HT_ rfl rfl (.inr ⟨by rfl, rfl⟩) (by simp only [Act.put, sa_, s0_, s1_, i64_w, i32_w]; rfl) ?_
  refine pu_ (v := undef) 18 (some 118) HT_ rfl rfl (.inr ⟨by rfl, rfl⟩) (by simp only [Act.put, sa_, s0_, s1_, i64_w, i32_w]; rfl) ?_
  refine pv_ 19 (some 119) HT_ ?_
  refine done_ (done_of HT_.out (by kernel_rfl)) ?_
  try go_wp2
  go_roundg k5
  case measure => have := HJ1.out; have := HK2.out; have := HK3.out; have := HJ34.out; have := HK5.out; omega
  case rel => exact ⟨(wrap64 (x7_5 + 1)), (by first | rfl | (simp; done) | (simp [*]; done)), H', ⟨by have := HJ1.out; have := HK2.out; have := HK3.out; have := HJ34.out; have := HK5.out; omega⟩, (sk_ BKz1), (sk_ BKz9), (sB_ HB)⟩
 rw [if_pos c52] at H
 have c52b0 : (((rd_T74 l0_3 x5_3).f0).toList == ((rd_T74 l0_3 x7_5).f0).toList) = true := beq_iff_eq.mpr c52
 have c52b1 : (((rd_T74 l0_3 x5_3).f0).toList != ((rd_T74 l0_3 x7_5).f0).toList) = false := bne_eq_false_iff_eq.mpr c52
 clear c52
 by_cases c53 : ((rd_T74 l0_3 x5_3).f1).toList = ((rd_T74 l0_3 x7_5).f1).toList
 ·rw [if_pos c53] at H
  have c53b0 : (((rd_T74 l0_3 x5_3).f1).toList == ((rd_T74 l0_3 x7_5).f1).toList) = true := beq_iff_eq.mpr c53
  have c53b1 : (((rd_T74 l0_3 x5_3).f1).toList != ((rd_T74 l0_3 x7_5).f1).toList) = false := bne_eq_false_iff_eq.mpr c53
  clear c53
  obtain rfl := Option.some.inj H
  try go_wp2
  have n0_ := am (bkD BKz1.out)
  have n1_ := am (bkD BKz9.out)
  have n2_ := am (below_drew1 HB.out)
  clear BKz1 BKz9 HB; have BKz1 := n0_; have BKz9 := n1_; have HB := n2_; clear n0_ n1_ n2_
  have pz10 : 0 ≤ (x7_5 : Int) := of_decide_eq_true (by first | (with_reducible assumption) | assumption)
  have qz10 : x7_5 < (l0_3.length : Int) := of_decide_eq_true (by first | (with_reducible assumption) | assumption)
  obtain ⟨adz10, ez10, hxz10_0, hxz10_1, hxz10_2⟩ := at_T74 HR0_3.out x7_5 pz10 qz10
  have hwz10_2 := hxz10_2
  have hwz10_1 := hxz10_1
  have hwz10_0 := hxz10_0
  obtain rfl : adz8 = adz10 := (by injection ez10)
  replace hxz10_0 := (HB.out.cell (World.block_lt_of_cell? w _ hxz10_0)).trans hxz10_0
  replace hxz10_1 := (HB.out.cell (World.block_lt_of_cell? w _ hxz10_1)).trans hxz10_1
  replace hxz10_2 := (HB.out.cell (World.block_lt_of_cell? w _ hxz10_2)).trans hxz10_2
  replace pz10 := eq_true pz10
  replace qz10 := eq_true qz10
  have pz11 : 0 ≤ (x7_5 : Int) := of_decide_eq_true (by first | (with_reducible assumption) | assumption)
  have qz11 : x7_5 < (l0_3.length : Int) := of_decide_eq_true (by first | (with_reducible assumption) | assumption)
  obtain ⟨adz11, ez11, hxz11_0, hxz11_1, hxz11_2⟩ := at_T74 HR0_3.out x7_5 pz11 qz11
  have hwz11_2 := hxz11_2
  have hwz11_1 := hxz11_1
  have hwz11_0 := hxz11_0
  obtain rfl : adz8 = adz11 := (by injection ez11)
  replace hxz11_0 := (HB.out.cell (World.block_lt_of_cell? w _ hxz11_0)).trans hxz11_0
  replace hxz11_1 := (HB.out.cell (World.block_lt_of_cell? w _ hxz11_1)).trans hxz11_1
  replace hxz11_2 := (HB.out.cell (World.block_lt_of_cell? w _ hxz11_2)).trans hxz11_2
  replace pz11 := eq_true pz11
  replace qz11 := eq_true qz11
  refine start_ (n := 20) (S := fun w' => w'.cell? ⟨gbz9, 0, none⟩ = some (.string ((rd_T74 l0_3 x5_3).f0)) ∧ w'.cell? ⟨gbz9, 1, none⟩ = some (.string ((rd_T74 l0_3 x5_3).f1)) ∧ w'.cell? ⟨gbz9, 2, none⟩ = some (.string ((rd_T74 l0_3 x5_3).f2)) ∧ w'.cell? ⟨gbz1, 0, none⟩ = some (.string a0_0) ∧ w'.cell? ⟨gbz1, 1, none⟩ = some (.int .i64 a0_1) ∧ w'.cell? ⟨gbz1, 2, none⟩ = some (.slice A0_2 l0_2.length c0_2) ∧ w'.cell? ⟨gbz1, 3, none⟩ = some (.slice (some adz8) l0_3.length c0_3) ∧ w'.cell? ⟨gbz1, 4, none⟩ = some (.bool a0_4) ∧ w'.cell? (adz8.add ((x7_5).toNat * 3)) = some (.string ((rd_T74 l0_3 x7_5).f0)) ∧ w'.cell? ⟨(adz8.add ((x7_5).toNat * 3)).block, (adz8.add ((x7_5).toNat * 3)).off + 1, none⟩ = some (.string ((rd_T74 l0_3 x7_5).f1)) ∧ w'.cell? ⟨(adz8.add ((x7_5).toNat * 3)).block, (adz8.add ((x7_5).toNat * 3)).off + 2, none⟩ = some (.string ((rd_T74 l0_3 x7_5).f2)) ∧ w'.cell? (adz8.add ((x7_5).toNat * 3)) = some (.string ((rd_T74 l0_3 x7_5).f0)) ∧ w'.cell? ⟨(adz8.add ((x7_5).toNat * 3)).block, (adz8.add ((x7_5).toNat * 3)).off + 1, none⟩ = some (.string ((rd_T74 l0_3 x7_5).f1)) ∧ w'.cell? ⟨(adz8.add ((x7_5).toNat * 3)).block, (adz8.add ((x7_5).toNat * 3)).off + 2, none⟩ = some (.string ((rd_T74 l0_3 x7_5).f2))) (ds := []) #[false, false, false, false, false, false, false, false, false, false, false, false, false, false, false, false, false, false, false, false] (by kernel_rfl) rfl rfl ⟨(blk_cell BKz9.out 0).trans rfl, (blk_cell BKz9.out 1).trans rfl, (blk_cell BKz9.out 2).trans rfl, (blk_cell BKz1.out 0).trans rfl, (blk_cell BKz1.out 1).trans rfl, (blk_cell BKz1.out 2).trans rfl, (blk_cell BKz1.out 3).trans rfl, (blk_cell BKz1.out 4).trans rfl, ((HB.out.cell (World.block_lt_of_cell? w _ hwz10_0)).trans hwz10_0), ((HB.out.cell (World.block_lt_of_cell? w _ hwz10_1)).trans hwz10_1), ((HB.out.cell (World.block_lt_of_cell? w _ hwz10_2)).trans hwz10_2), ((HB.out.cell (World.block_lt_of_cell? w _ hwz11_0)).trans hwz11_0), ((HB.out.cell (World.block_lt_of_cell? w _ hwz11_1)).trans hwz11_1), ((HB.out.cell (World.block_lt_of_cell? w _ hwz11_2)).trans hwz11_2)⟩ (fun hHeld => ?_); refine with_tabW r8_Right.tab22 r8_Right.bits22 (fun HT_ HW_ => ?_)
  generalize wr.drew = w54 at BKz1 BKz9 HB hxz10_0 hxz10_1 hxz10_2 hxz11_0 hxz11_1 hxz11_2 hHeld ⊢
  refine pv_ 0 (some 100) HT_ ?_
  refine pv_ 2 (some 102) HT_ ?_
  refine pv_ 4 (some 104) HT_ ?_
  refine tk_ 1 (some 101) HT_ HW_ rfl rfl (.inl ⟨by rfl, by rintro w' ⟨s0, s1, s2, s3, s4, s5, s6, s7, s8, s9, s10, s11, s12, s13⟩; go_simp; with_reducible rfl⟩) hHeld (by simp only [Act.put, sa_, s0_, s1_, i64_w, i32_w]; rfl) ?_
  refine tk_ 3 (some 103) HT_ HW_ rfl rfl (.inl ⟨by rfl, by rintro w' ⟨s0, s1, s2, s3, s4, s5, s6, s7, s8, s9, s10, s11, s12, s13⟩; go_simp; with_reducible rfl⟩) hHeld (by simp only [Act.put, sa_, s0_, s1_, i64_w, i32_w]; rfl) ?_
  refine pv_ 5 (some 105) HT_ ?_
  refine pv_ 6 (some 106) HT_ ?_
  refine tk_ 7 (some 107) HT_ HW_ rfl rfl (.inl ⟨by rfl, by rintro w' ⟨s0, s1, s2, s3, s4, s5, s6, s7, s8, s9, s10, s11, s12, s13⟩; go_simp; with_reducible rfl⟩) hHeld (by simp only [Act.put, sa_, s0_, s1_, i64_w, i32_w]; rfl) ?_
  refine pv_ 8 (some 108) HT_ ?_
  refine pv_ 9 (some 109) HT_ ?_
  refine pv_ 10 (some 110) HT_ ?_
  refine pv_ 12 (some 112) HT_ ?_
  refine pv_ 14 (some 114) HT_ ?_
  refine tk_ 11 (some 111) HT_ HW_ rfl rfl (.inl ⟨by rfl, by rintro w' ⟨s0, s1, s2, s3, s4, s5, s6, s7, s8, s9, s10, s11, s12, s13⟩; go_simp; with_reducible rfl⟩) hHeld (by simp only [Act.put, sa_, s0_, s1_, i64_w, i32_w]; rfl) ?_
  refine tk_ 13 (some 113) HT_ HW_ rfl rfl (.inl ⟨by rfl, by rintro w' ⟨s0, s1, s2, s3, s4, s5, s6, s7, s8, s9, s10, s11, s12, s13⟩; go_simp; with_reducible rfl⟩) hHeld (by simp only [Act.put, sa_, s0_, s1_, i64_w, i32_w]; rfl) ?_
  refine pv_ 15 (some 115) HT_ ?_
  refine pv_ 16 (some 116) HT_ ?_
  refine tk_ 17 (some 117) HT_ HW_ rfl rfl (.inl ⟨by rfl, by rintro w' ⟨s0, s1, s2, s3, s4, s5, s6, s7, s8, s9, s10, s11, s12, s13⟩; go_simp; with_reducible rfl⟩) hHeld (by simp only [Act.put, sa_, s0_, s1_, i64_w, i32_w]; rfl) ?_
  refine pv_ 18 (some 118) HT_ ?_
  refine pv_ 19 (some 119) HT_ ?_
  refine done_ (done_of HT_.out (by kernel_rfl)) ?_
  try go_wp2
  go_ret
  exact ⟨by first | rfl | (simp <;> rfl) | (simp [*] <;> rfl), sC_ HB⟩
 rw [if_neg c53] at H
 have c53b0 : (((rd_T74 l0_3 x5_3).f1).toList == ((rd_T74 l0_3 x7_5).f1).toList) = false := beq_eq_false_iff_ne.mpr c53
 have c53b1 : (((rd_T74 l0_3 x5_3).f1).toList != ((rd_T74 l0_3 x7_5).f1).toList) = true := bne_iff_ne.mpr c53
 have H' := am H
 clear H
 try go_wp2
 have n0_ := am (bkD BKz1.out)
 have n1_ := am (bkD BKz9.out)
 have n2_ := am (below_drew1 HB.out)
 clear BKz1 BKz9 HB; have BKz1 := n0_; have BKz9 := n1_; have HB := n2_; clear n0_ n1_ n2_
 have pz10 : 0 ≤ (x7_5 : Int) := of_decide_eq_true (by first | (with_reducible assumption) | assumption)
 have qz10 : x7_5 < (l0_3.length : Int) := of_decide_eq_true (by first | (with_reducible assumption) | assumption)
 obtain ⟨adz10, ez10, hxz10_0, hxz10_1, hxz10_2⟩ := at_T74 HR0_3.out x7_5 pz10 qz10
 have hwz10_2 := hxz10_2
 have hwz10_1 := hxz10_1
 have hwz10_0 := hxz10_0
 obtain rfl : adz8 = adz10 := (by injection ez10)
 replace hxz10_0 := (HB.out.cell (World.block_lt_of_cell? w _ hxz10_0)).trans hxz10_0
 replace hxz10_1 := (HB.out.cell (World.block_lt_of_cell? w _ hxz10_1)).trans hxz10_1
 replace hxz10_2 := (HB.out.cell (World.block_lt_of_cell? w _ hxz10_2)).trans hxz10_2
 replace pz10 := eq_true pz10
 replace qz10 := eq_true qz10
 have pz11 : 0 ≤ (x7_5 : Int) := of_decide_eq_true (by first | (with_reducible assumption) | assumption)
 have qz11 : x7_5 < (l0_3.length : Int) := of_decide_eq_true (by first | (with_reducible assumption) | assumption)
 obtain ⟨adz11, ez11, hxz11_0, hxz11_1, hxz11_2⟩ := at_T74 HR0_3.out x7_5 pz11 qz11
 have hwz11_2 := hxz11_2
 have hwz11_1 := hxz11_1
 have hwz11_0 := hxz11_0
 obtain rfl : adz8 = adz11 := (by injection ez11)
 replace hxz11_0 := (HB.out.cell (World.block_lt_of_cell? w _ hxz11_0)).trans hxz11_0
 replace hxz11_1 := (HB.out.cell (World.block_lt_of_cell? w _ hxz11_1)).trans hxz11_1
 replace hxz11_2 := (HB.out.cell (World.block_lt_of_cell? w _ hxz11_2)).trans hxz11_2
 replace pz11 := eq_true pz11
 replace qz11 := eq_true qz11
 refine start_ (n := 20) (S := fun w' => w'.cell? ⟨gbz9, 0, none⟩ = some (.string ((rd_T74 l0_3 x5_3).f0)) ∧ w'.cell? ⟨gbz9, 1, none⟩ = some (.string ((rd_T74 l0_3 x5_3).f1)) ∧ w'.cell? ⟨gbz9, 2, none⟩ = some (.string ((rd_T74 l0_3 x5_3).f2)) ∧ w'.cell? ⟨gbz1, 0, none⟩ = some (.string a0_0) ∧ w'.cell? ⟨gbz1, 1, none⟩ = some (.int .i64 a0_1) ∧ w'.cell? ⟨gbz1, 2, none⟩ = some (.slice A0_2 l0_2.length c0_2) ∧ w'.cell? ⟨gbz1, 3, none⟩ = some (.slice (some adz8) l0_3.length c0_3) ∧ w'.cell? ⟨gbz1, 4, none⟩ = some (.bool a0_4) ∧ w'.cell? (adz8.add ((x7_5).toNat * 3)) = some (.string ((rd_T74 l0_3 x7_5).f0)) ∧ w'.cell? ⟨(adz8.add ((x7_5).toNat * 3)).block, (adz8.add ((x7_5).toNat * 3)).off + 1, none⟩ = some (.string ((rd_T74 l0_3 x7_5).f1)) ∧ w'.cell? ⟨(adz8.add ((x7_5).toNat * 3)).block, (adz8.add ((x7_5).toNat * 3)).off + 2, none⟩ = some (.string ((rd_T74 l0_3 x7_5).f2)) ∧ w'.cell? (adz8.add ((x7_5).toNat * 3)) = some (.string ((rd_T74 l0_3 x7_5).f0)) ∧ w'.cell? ⟨(adz8.add ((x7_5).toNat * 3)).block, (adz8.add ((x7_5).toNat * 3)).off + 1, none⟩ = some (.string ((rd_T74 l0_3 x7_5).f1)) ∧ w'.cell? ⟨(adz8.add ((x7_5).toNat * 3)).block, (adz8.add ((x7_5).toNat * 3)).off + 2, none⟩ = some (.string ((rd_T74 l0_3 x7_5).f2))) (ds := []) #[false, false, false, false, false, false, false, false, false, false, false, false, false, false, false, false, false, false, false, false] (by kernel_rfl) rfl rfl ⟨(blk_cell BKz9.out 0).trans rfl, (blk_cell BKz9.out 1).trans rfl, (blk_cell BKz9.out 2).trans rfl, (blk_cell BKz1.out 0).trans rfl, (blk_cell BKz1.out 1).trans rfl, (blk_cell BKz1.out 2).trans rfl, (blk_cell BKz1.out 3).trans rfl, (blk_cell BKz1.out 4).trans rfl, ((HB.out.cell (World.block_lt_of_cell? w _ hwz10_0)).trans hwz10_0), ((HB.out.cell (World.block_lt_of_cell? w _ hwz10_1)).trans hwz10_1), ((HB.out.cell (World.block_lt_of_cell? w _ hwz10_2)).trans hwz10_2), ((HB.out.cell (World.block_lt_of_cell? w _ hwz11_0)).trans hwz11_0), ((HB.out.cell (World.block_lt_of_cell? w _ hwz11_1)).trans hwz11_1), ((HB.out.cell (World.block_lt_of_cell? w _ hwz11_2)).trans hwz11_2)⟩ (fun hHeld => ?_); refine with_tabW r8_Right.tab22 r8_Right.bits22 (fun HT_ HW_ => ?_)
 generalize wr.drew = w55 at BKz1 BKz9 HB hxz10_0 hxz10_1 hxz10_2 hxz11_0 hxz11_1 hxz11_2 hHeld ⊢
 refine pv_ 0 (some 100) HT_ ?_
 refine pv_ 2 (some 102) HT_ ?_
 refine pv_ 4 (some 104) HT_ ?_
 refine tk_ 1 (some 101) HT_ HW_ rfl rfl (.inl ⟨by rfl, by rintro w' ⟨s0, s1, s2, s3, s4, s5, s6, s7, s8, s9, s10, s11, s12, s13⟩; go_simp; with_reducible rfl⟩) hHeld (by simp only [Act.put, sa_, s0_, s1_, i64_w, i32_w]; rfl) ?_
 refine tk_ 3 (some 103) HT_ HW_ rfl rfl (.inl ⟨by rfl, by rintro w' ⟨s0, s1, s2, s3, s4, s5, s6, s7, s8, s9, s10, s11, s12, s13⟩; go_simp; with_reducible rfl⟩) hHeld (by simp only [Act.put, sa_, s0_, s1_, i64_w, i32_w]; rfl) ?_
 refine pv_ 5 (some 105) HT_ ?_
 refine pv_ 6 (some 106) HT_ ?_
 refine tk_ 7 (some 107) HT_ HW_ rfl rfl (.inl ⟨by rfl, by rintro w' ⟨s0, s1, s2, s3, s4, s5, s6, s7, s8, s9, s10, s11, s12, s13⟩; go_simp; with_reducible rfl⟩) hHeld (by simp only [Act.put, sa_, s0_, s1_, i64_w, i32_w]; rfl) ?_
 refine pv_ 8 (some 108) HT_ ?_
 refine pv_ 9 (some 109) HT_ ?_
 refine pv_ 10 (some 110) HT_ ?_
 refine pv_ 12 (some 112) HT_ ?_
 refine pv_ 14 (some 114) HT_ ?_
 refine tk_ 11 (some 111) HT_ HW_ rfl rfl (.inl ⟨by rfl, by rintro w' ⟨s0, s1, s2, s3, s4, s5, s6, s7, s8, s9, s10, s11, s12, s13⟩; go_simp; with_reducible rfl⟩) hHeld (by simp only [Act.put, sa_, s0_, s1_, i64_w, i32_w]; rfl) ?_
 refine tk_ 13 (some 113) HT_ HW_ rfl rfl (.inl ⟨by rfl, by rintro w' ⟨s0, s1, s2, s3, s4, s5, s6, s7, s8, s9, s10, s11, s12, s13⟩; go_simp; with_reducible rfl⟩) hHeld (by simp only [Act.put, sa_, s0_, s1_, i64_w, i32_w]; rfl) ?_
 refine pv_ 15 (some 115) HT_ ?_
 refine pv_ 16 (some 116) HT_ ?_
 refine tk_ 17 (some 117) HT_ HW_ rfl rfl (.inl ⟨by rfl, by rintro w' ⟨s0, s1, s2, s3, s4, s5, s6, s7, s8, s9, s10, s11, s12, s13⟩; go_simp; with_reducible rfl⟩) hHeld (by simp only [Act.put, sa_, s0_, s1_, i64_w, i32_w]; rfl) ?_
 refine pv_ 18 (some 118) HT_ ?_
 refine pv_ 19 (some 119) HT_ ?_
 refine done_ (done_of HT_.out (by kernel_rfl)) ?_
 try go_wp2
 go_roundg k5
 case measure => have := HJ1.out; have := HK2.out; have := HK3.out; have := HJ34.out; have := HK5.out; omega
 case rel => exact ⟨(wrap64 (x7_5 + 1)), (by first | rfl | (simp; done) | (simp [*]; done)), H', ⟨by have := HJ1.out; have := HK2.out; have := HK3.out; have := HJ34.out; have := HK5.out; omega⟩, (sk_ BKz1), (sk_ BKz9), (sB_ HB)⟩
end Go.Proofs.Ytmkncddbecmlpaa.Pr
end
section
namespace Go.Proofs.Ytmkncddbecmlpaa.Pr
open Go.Proofs.Ytmkncddbecmlpaa.Sq Go.RowKit Go.Proofs.YtmkncddbecmlpaaW.PrintWords Go.Proofs.YtmkncddbecmlpaaW.PrintLast Go.Proofs.YtmkncddbecmlpaaW.PrintMore
attribute [local go_sem] max2_int min2_int max_two min_two max_three min_three max_four min_four
set_option linter.unusedVariables false
set_option linter.unusedSimpArgs false
mutual
def r8_Label.j0 : Nat → ByteArray → Bool → ByteArray → Int → List (S72) → List (S74) → Bool → ByteArray → Int → List (S72) → List (S74) → Bool → Option (ByteArray × ByteArray × Int × (List (S72)) × (List (S74)) × Bool × Int)
 | 0, _, _, _, _, _, _, _, _, _, _, _, _ => none
 | k + 1, x1, x21, xz2000, xz2001, xz2002, xz2003, xz2004, xz13000, xz13001, xz13002, xz13003, xz13004 => if x21 = true then (some ((⟨#[]⟩ : ByteArray), xz13000, xz13001, xz13002, xz13003, xz13004, 1)) else (r8_Label.l0 k x1 0 xz2000 xz2001 xz2002 xz2003 xz2004 xz13000 xz13001 xz13002 xz13003 xz13004)
def r8_Label.l0 : Nat → ByteArray → Int → ByteArray → Int → List (S72) → List (S74) → Bool → ByteArray → Int → List (S72) → List (S74) → Bool → Option (ByteArray × ByteArray × Int × (List (S72)) × (List (S74)) × Bool × Int)
 | 0, _, _, _, _, _, _, _, _, _, _, _, _ => none
 | k + 1, x1, x8, xz2000, xz2001, xz2002, xz2003, xz2004, xz13000, xz13001, xz13002, xz13003, xz13004 => if x8 < (xz2002.length : Int) then (if 0 ≤ x8 then (if ((rd_T72 xz2002 x8).f0).toList = x1.toList then (some ((rd_T72 xz2002 x8).f1, xz13000, xz13001, xz13002, xz13003, xz13004, 0)) else (r8_Label.l0 k x1 (wrap64 (x8 + 1)) xz2000 xz2001 xz2002 xz2003 xz2004 xz13000 xz13001 xz13002 xz13003 xz13004)) else (none)) else (if (xz2002.length : Int) ≥ 2000 then (some ((⟨#[]⟩ : ByteArray), xz13000, xz13001, xz13002, xz13003, xz13004, 2)) else ((r7_Take.f k xz2000 xz2001 16).bind fun btz16 => (if btz16.2.2.2 = 0 then (if xz13002.length < 4398046511104 then ((some (xz13002 ++ [(⟨x1, btz16.1⟩ : S72)] : List (S72))).bind fun yz21 => ((r8_clash.f k btz16.2.1 btz16.2.2.1 yz21 xz13003 xz13004).bind fun tz24 => (some (btz16.1, btz16.2.1, btz16.2.2.1, yz21, xz13003, tz24, 0)))) else (none)) else (some ((⟨#[]⟩ : ByteArray), xz13000, xz13001, xz13002, xz13003, xz13004, btz16.2.2.2)))))
end
def r8_Label.f (k : Nat) (a0_0 : ByteArray) (a0_1 : Int) (l0_2 : List (S72)) (l0_3 : List (S74)) (a0_4 : Bool) (a1 : ByteArray) : Option (ByteArray × ByteArray × Int × (List (S72)) × (List (S74)) × Bool × Int) := (r8_Own.f a0_0 a0_1 l0_2 l0_3 a0_4).bind fun btz3 => ((r8_Right.f k a0_0 a0_1 l0_2 l0_3 a0_4).bind fun tz13 => (if tz13 = true then (r8_Label.j0 k a1 (decide ((a1.size : Int) > 100)) a0_0 a0_1 l0_2 l0_3 a0_4 btz3.1 btz3.2.1 btz3.2.2.1 btz3.2.2.2.1 btz3.2.2.2.2) else (r8_Label.j0 k a1 true a0_0 a0_1 l0_2 l0_3 a0_4 btz3.1 btz3.2.1 btz3.2.2.1 btz3.2.2.2.1 btz3.2.2.2.2)))
def r8_Label.T8 : Bool × List (List Nat × List Nat) := (true, [([], []), ([0], [0]), ([], []), ([1, 2], [1, 2]), ([3], [3]), ([4], [4]), ([], []), ([5, 0, 1, 2, 3, 4, 5], [5]), ([6, 7, 0, 1, 2, 3, 4, 5, 6, 7], [6]), ([8, 0, 1, 2, 3, 4, 5, 6, 7, 8], [])])
def r8_Label.B8 : List Nat := [0, 1, 0, 7, 15, 31, 0, 63, 255, 511]
theorem r8_Label.tab8 : rtab .any (opsOf Try.f36 8) = r8_Label.T8 := by kernel_rfl
theorem r8_Label.bits8 : waitsOk r8_Label.T8.2 r8_Label.B8 = true := by kernel_rfl
set_option maxHeartbeats 8000000 in
set_option maxRecDepth 100000 in
theorem r8_Label.calls (k : Nat) (a0_0 : ByteArray) (a0_1 : Int) (A0_2 : Option Addr) (c0_2 : Nat) (l0_2 : List (S72)) (A0_3 : Option Addr) (c0_3 : Nat) (l0_3 : List (S74)) (a0_4 : Bool) (a1 : ByteArray) (r1 : ByteArray) (r2 : ByteArray) (r3 : Int) (r4 : List (S72)) (r5 : List (S74)) (r6 : Bool) (r7 : Int) (w : World) (hr0_2 : Kd.C k72 w A0_2 l0_2.length l0_2) (hc0_2 : l0_2.length ≤ c0_2) (hr0_3 : Kd.C k74 w A0_3 l0_3.length l0_3) (hc0_3 : l0_3.length ≤ c0_3) (h : r8_Label.f k a0_0 a0_1 l0_2 l0_3 a0_4 a1 = some (r1, r2, r3, r4, r5, r6, r7)) :
  Calls Try.prog 36 #[.agg #[.string a0_0, .int .i64 a0_1, .slice A0_2 l0_2.length c0_2, .slice A0_3 l0_3.length c0_3, .bool a0_4], .string a1] w fun e w' => ∃ v3_ v4_ : Value, e = .returned (.tuple #[.string r1, .agg #[.string r2, .int .i64 r3, v3_, v4_, .bool r6], .int .i64 r7]) ∧ Kd.R k72 72 w' w.heap.size (fun _ => True) v3_ r4 ∧ Kd.R k74 74 w' w.heap.size (fun _ => True) v4_ r5 ∧ Below w.heap.size w w' := by
 have hu50 := Try.underlying50
 have hu23 := Try.underlying23
 have hu72 := Try.underlying72
 have HR0_2 := am hr0_2
 have HC0_2 := am hc0_2
 clear hr0_2 hc0_2
 have HR0_3 := am hr0_3
 have HC0_3 := am hc0_3
 clear hr0_3 hc0_3
 have HB := am (Below.refl w.heap.size w)
 have H : ((r8_Own.f a0_0 a0_1 l0_2 l0_3 a0_4).bind fun btz3 => ((r8_Right.f k a0_0 a0_1 l0_2 l0_3 a0_4).bind fun tz13 => (if tz13 = true then (r8_Label.j0 k a1 (decide ((a1.size : Int) > 100)) a0_0 a0_1 l0_2 l0_3 a0_4 btz3.1 btz3.2.1 btz3.2.2.1 btz3.2.2.2.1 btz3.2.2.2.2) else (r8_Label.j0 k a1 true a0_0 a0_1 l0_2 l0_3 a0_4 btz3.1 btz3.2.1 btz3.2.2.1 btz3.2.2.2.1 btz3.2.2.2.2)))) = some (r1, r2, r3, r4, r5, r6, r7) := h
 clear h
 replace H := ob_ H
 obtain ⟨⟨tz3, tz4, tz5, tz8, tz11⟩, A30, H⟩ := H
 replace H : ((r8_Right.f k a0_0 a0_1 l0_2 l0_3 a0_4).bind fun tz13 => (if tz13 = true then (r8_Label.j0 k a1 (decide ((a1.size : Int) > 100)) a0_0 a0_1 l0_2 l0_3 a0_4 tz3 tz4 tz5 tz8 tz11) else (r8_Label.j0 k a1 true a0_0 a0_1 l0_2 l0_3 a0_4 tz3 tz4 tz5 tz8 tz11))) = some (r1, r2, r3, r4, r5, r6, r7) := H
 have A3 := Aside0.mk A30
 clear A30
 have HC4 := am H
 clear H
 go_enter Try.func36, Try.ntmps36
 go_upto_region 2 with (first | ((with_reducible refine gate_dst (N := 2) rfl ?_); (try (refine gate_guard (by rfl) ?_; dsimp only)); refine box_event ?hg (N := 2) ?hd (cs := #[.string a0_0, .int .i64 a0_1, .slice A0_2 l0_2.length c0_2, .slice A0_3 l0_3.length c0_3, .bool a0_4]) (t := 50) ?hr ?_; (case hd => rfl); (case hg => rfl); (case hr => first | (go_simp; done) | (go_simp; rfl)); intro gbz1 hg w5 hbox hb; have n0_ := am (below_step (pb HB) hb); have n1_ := am (hbox); have n2_ := ge_ hg (pb HB); have n3_ := ge_ hg (pb HB); clear HB; have HB := n0_; have BKz1 := n1_; have GWz1 := n2_; have GEz1 := n3_; clear n0_ n1_ n2_ n3_; clear hb hbox hg) | ((with_reducible refine gate_dst (N := 5) rfl ?_); (try (refine gate_guard (by rfl) ?_; dsimp only)); refine box_event ?hg (N := 5) ?hd (cs := #[.string (⟨#[]⟩ : ByteArray), .int .i64 0, .slice none 0 0, .slice none 0 0, .bool false]) (t := 50) ?hr ?_; (case hd => rfl); (case hg => rfl); (case hr => first | (go_simp; done) | (go_simp; rfl)); intro gbz2 hg w6 hbox hb; have n0_ := am (bkB (pk BKz1) hb); have n1_ := am (below_step (sC_ HB) hb); have n2_ := am (hbox); have n3_ := ge_ hg (sC_ HB); have n4_ := ge_ hg (sC_ HB); have n5_ := nl_ hg BKz1; have n6_ := ng_ hg BKz1; clear BKz1; clear HB; have BKz1 := n0_; have HB := n1_; have BKz2 := n2_; have GWz2 := n3_; have GEz2 := n4_; have NBz1_z2 := n5_; have NBz2_z1 := n6_; clear n0_ n1_ n2_ n3_ n4_ n5_ n6_; clear hb hbox hg; have hnb7 := NBz1_z2.out; have hnc7 := NBz2_z1.out; obtain ⟨hcz8_0, hcz8_1, hcz8_2, hcz8_3, hcz8_4⟩ := bc5 BKz1; obtain ⟨hfz8_0, hfz8_1, hfz8_2, hfz8_3, hfz8_4⟩ := bf5 BKz1) | ((with_reducible refine gate_callee (f := 53) rfl ?_); refine goesL_ (some 13) rfl rfl Try.func53 (by kernel_rfl) rfl #[.agg #[.string a0_0, .int .i64 a0_1, .slice A0_2 l0_2.length c0_2, .slice A0_3 l0_3.length c0_3, .bool a0_4]] rfl (by (try simp only [List.map_toArray, List.map_cons, List.map_nil]) <;> rfl) ?_; (with_reducible refine (r8_Own.calls a0_0 a0_1 _ _ l0_2 _ _ l0_3 a0_4 tz3 tz4 tz5 tz8 tz11 _ ?side1 ?side2 ?side3 ?side4 A3.out).mono ?_); (case side1 => repeat (first | exact (Kd.C_below HR0_2.out HB.out) | (with_reducible refine Kd.C_alloc ?_ _) | (with_reducible refine Kd.C_drewN ?_ _) | (with_reducible refine Kd.C_drew ?_))); (case side2 => exact HC0_2.out); (case side3 => repeat (first | exact (Kd.C_below HR0_3.out HB.out) | (with_reducible refine Kd.C_alloc ?_ _) | (with_reducible refine Kd.C_drewN ?_ _) | (with_reducible refine Kd.C_drew ?_))); (case side4 => exact HC0_3.out); rintro e w9 ⟨vz6, vz9, rfl, ho0, ho1, hb⟩; refine ⟨_, rfl, ?_⟩; have n0_ := am (Kd.R_lower ho0 (below_size (sC_ HB))); have n1_ := am (Kd.R_lower ho1 (below_size (sC_ HB))); have n2_ := am (bkB (pk BKz1) hb); have n3_ := am (bkB (g := gbz2) (o := .cells #[.string (⟨#[]⟩ : ByteArray), .int .i64 0, .slice none 0 0, .slice none 0 0, .bool false] 50 (0, 0)) (pk BKz2) hb); have n4_ := am (below_step (sC_ HB) hb); clear BKz1; clear BKz2; clear HB; have HOz7 := n0_; have HOz10 := n1_; have BKz1 := n2_; have BKz2 := n3_; have HB := n4_; clear n0_ n1_ n2_ n3_ n4_; (try clear ho1)) | ((with_reducible refine gate_dst (N := 7) rfl ?_); (try (refine gate_guard (by rfl) ?_; dsimp only)); refine box_event ?hg (N := 7) ?hd (cs := #[.string (⟨#[]⟩ : ByteArray), .int .i64 0, .slice none 0 0, .slice none 0 0, .bool false]) (t := 50) ?hr ?_; (case hd => rfl); (case hg => rfl); (case hr => first | (go_simp; done) | (go_simp; rfl)); intro gbz12 hg w10 hbox hb; have n0_ := am (Kd.R_below (pr HOz7) hb); have n1_ := am (Kd.R_below (pr HOz10) hb); have n2_ := am (bkB (pk BKz1) hb); have n3_ := am (bkB (g := gbz2) (o := .cells #[.string (⟨#[]⟩ : ByteArray), .int .i64 0, .slice none 0 0, .slice none 0 0, .bool false] 50 (0, 0)) (pk BKz2) hb); have n4_ := am (below_step (sC_ HB) hb); have n5_ := am (hbox); have n6_ := ge_ hg (sC_ HB); have n7_ := ge_ hg (sC_ HB); have n8_ := nl_ hg BKz1; have n9_ := ng_ hg BKz1; have n10_ := am ((by rw [hg]; exact Nat.ne_of_lt (blk_lt (g := gbz2) (o := .cells #[.string (⟨#[]⟩ : ByteArray), .int .i64 0, .slice none 0 0, .slice none 0 0, .bool false] 50 (0, 0)) (pk BKz2)) : gbz2 ≠ gbz12)); have n11_ := am ((by rw [hg]; exact Nat.ne_of_gt (blk_lt (g := gbz2) (o := .cells #[.string (⟨#[]⟩ : ByteArray), .int .i64 0, .slice none 0 0, .slice none 0 0, .bool false] 50 (0, 0)) (pk BKz2)) : gbz12 ≠ gbz2)); clear HOz7; clear HOz10; clear BKz1; clear BKz2; clear HB; have HOz7 := n0_; have HOz10 := n1_; have BKz1 := n2_; have BKz2 := n3_; have HB := n4_; have BKz12 := n5_; have GWz12 := n6_; have GEz12 := n7_; have NBz1_z12 := n8_; have NBz12_z1 := n9_; have NBz2_z12 := n10_; have NBz12_z2 := n11_; clear n0_ n1_ n2_ n3_ n4_ n5_ n6_ n7_ n8_ n9_ n10_ n11_; clear hb hbox hg; have hnb11 := NBz12_z1.out; have hnc11 := NBz1_z12.out; have hnb12 := NBz12_z2.out; have hnc12 := NBz2_z12.out; obtain ⟨hcz13_0, hcz13_1, hcz13_2, hcz13_3, hcz13_4⟩ := bc5 BKz12; obtain ⟨hfz13_0, hfz13_1, hfz13_2, hfz13_3, hfz13_4⟩ := bf5 BKz12; obtain ⟨Ao14, co14, eo14⟩ := Kd.R_slice HOz7.out; subst eo14; obtain ⟨Ao15, co15, eo15⟩ := Kd.R_slice HOz10.out; subst eo15))
 (try simp only [Act.put, List.setIfInBounds_toArray, List.set_cons_zero, List.set_cons_succ])
 go_cut [21] (fun v21 wc => ∃ (kq : Nat) (x21_3 : Bool), v21 = .bool x21_3 ∧ Aside0 (r8_Label.j0 kq a1 x21_3 a0_0 a0_1 l0_2 l0_3 a0_4 tz3 tz4 tz5 tz8 tz11 = some (r1, r2, r3, r4, r5, r6, r7)) ∧ Aside0 (kq ≤ k) ∧ Aside0 (Kd.R k72 72 wc w.heap.size (fun _ => True) (.slice Ao14 tz5.length co14) tz5) ∧ Aside0 (Kd.R k74 74 wc w.heap.size (fun _ => True) (.slice Ao15 tz8.length co15) tz8) ∧ Aside0 (wc.heap[gbz1]? = some (.cells #[.string a0_0, .int .i64 a0_1, (.slice A0_2 l0_2.length c0_2), (.slice A0_3 l0_3.length c0_3), .bool a0_4] 50 (0, 0))) ∧ Aside0 (wc.heap[gbz2]? = some (.cells #[.string (⟨#[]⟩ : ByteArray), .int .i64 0, (.slice none 0 0), (.slice none 0 0), .bool false] 50 (0, 0))) ∧ Aside0 (wc.heap[gbz12]? = some (.cells #[.string tz3, .int .i64 tz4, (.slice Ao14 tz5.length co14), (.slice Ao15 tz8.length co15), .bool tz11] 50 (0, 0))) ∧ Aside0 (Below w.heap.size w wc))
 case first =>
  have H := HC4.out
  clear HC4
  replace H := ob_ H
  obtain ⟨tz13, A160, H⟩ := H
  replace H : (if tz13 = true then (r8_Label.j0 k a1 (decide ((a1.size : Int) > 100)) a0_0 a0_1 l0_2 l0_3 a0_4 tz3 tz4 tz5 tz8 tz11) else (r8_Label.j0 k a1 true a0_0 a0_1 l0_2 l0_3 a0_4 tz3 tz4 tz5 tz8 tz11)) = some (r1, r2, r3, r4, r5, r6, r7) := H
  have A16 := Aside0.mk A160
  clear A160
  by_cases c17 : tz13 = true
  ·subst c17
   have H1 : (r8_Label.j0 k a1 (decide ((a1.size : Int) > 100)) a0_0 a0_1 l0_2 l0_3 a0_4 tz3 tz4 tz5 tz8 tz11) = some (r1, r2, r3, r4, r5, r6, r7) := by rw [if_pos rfl] at H; exact H
   clear H
   have H := H1
   clear H1
   have H' := am H
   clear H
   have hnb18 := NBz1_z2.out
   have hnc18 := NBz2_z1.out
   have hnb19 := NBz1_z12.out
   have hnc19 := NBz12_z1.out
   obtain ⟨hcz20_0, hcz20_1, hcz20_2, hcz20_3, hcz20_4⟩ := bc5 BKz1
   obtain ⟨hfz20_0, hfz20_1, hfz20_2, hfz20_3, hfz20_4⟩ := bf5 BKz1
   go_wp2_with (first | ((with_reducible refine gate_callee (f := 38) rfl ?_); refine goesL_ (some 15) rfl rfl Try.func38 (by kernel_rfl) rfl #[.agg #[.string a0_0, .int .i64 a0_1, .slice A0_2 l0_2.length c0_2, .slice A0_3 l0_3.length c0_3, .bool a0_4]] rfl (by (try simp only [List.map_toArray, List.map_cons, List.map_nil]) <;> rfl) ?_; (with_reducible refine (r8_Right.calls k a0_0 a0_1 _ _ l0_2 _ _ l0_3 a0_4 true _ ?side1 ?side2 ?side3 ?side4 A16.out).mono ?_); (case side1 => exact Kd.C_below HR0_2.out (sC_ HB)); (case side2 => exact HC0_2.out); (case side3 => exact Kd.C_below HR0_3.out (sC_ HB)); (case side4 => exact HC0_3.out); rintro e w21 ⟨rfl, hb⟩; refine ⟨_, rfl, ?_⟩; have n0_ := am (Kd.R_below (by (with_reducible repeat first | apply ra | apply rn | apply rd); exact (rs5 HOz7 BKz12 (by decide))) hb); have n1_ := am (Kd.R_below (by (with_reducible repeat first | apply ra | apply rn | apply rd); exact (rs5 HOz10 BKz12 (by decide))) hb); have n2_ := am (bkB (g := gbz1) (o := .cells #[.string a0_0, .int .i64 a0_1, .slice A0_2 l0_2.length c0_2, .slice A0_3 l0_3.length c0_3, .bool a0_4] 50 (0, 0)) (by (with_reducible repeat (first | refine blk_drewN ?_ _ | refine bkD ?_ | refine bkA ?_ _)); refine br5 ?_ NBz1_z12; exact pk BKz1) hb); have n3_ := am (bkB (g := gbz2) (o := .cells #[.string (⟨#[]⟩ : ByteArray), .int .i64 0, .slice none 0 0, .slice none 0 0, .bool false] 50 (0, 0)) (by (with_reducible repeat (first | refine blk_drewN ?_ _ | refine bkD ?_ | refine bkA ?_ _)); refine br5 ?_ NBz2_z12; exact pk BKz2) hb); have n4_ := am (bkB (g := gbz12) (o := .cells #[.string tz3, .int .i64 tz4, .slice Ao14 tz5.length co14, .slice Ao15 tz8.length co15, .bool tz11] 50 (0, 0)) (by (with_reducible repeat (first | refine blk_drewN ?_ _ | refine bkD ?_ | refine bkA ?_ _)); apply bp5; exact pk BKz12) hb); have n5_ := am (below_step (sC_ HB) hb); clear HOz7; clear HOz10; clear BKz1; clear BKz2; clear BKz12; clear HB; have HOz7 := n0_; have HOz10 := n1_; have BKz1 := n2_; have BKz2 := n3_; have BKz12 := n4_; have HB := n5_; clear n0_ n1_ n2_ n3_ n4_ n5_; (try clear hi)))
   go_meet
   case rel => exact ⟨_, (decide ((a1.size : Int) > 100)), (by first | rfl | (simp; done) | (simp [*]; done)), H', ⟨by first | omega | exact Nat.le_refl _⟩, (sr_ HOz7), (sr_ HOz10), (sk_ BKz1), (sk_ BKz2), (sk_ BKz12), (sB_ HB)⟩
  replace c17 := Bool.eq_false_iff.mpr c17
  subst c17
  have H1 : (r8_Label.j0 k a1 true a0_0 a0_1 l0_2 l0_3 a0_4 tz3 tz4 tz5 tz8 tz11) = some (r1, r2, r3, r4, r5, r6, r7) := by rw [if_neg (show ¬ (false = true) by decide)] at H; exact H
  clear H
  have H := H1
  clear H1
  have H' := am H
  clear H
  have hnb22 := NBz1_z2.out
  have hnc22 := NBz2_z1.out
  have hnb23 := NBz1_z12.out
  have hnc23 := NBz12_z1.out
  obtain ⟨hcz24_0, hcz24_1, hcz24_2, hcz24_3, hcz24_4⟩ := bc5 BKz1
  obtain ⟨hfz24_0, hfz24_1, hfz24_2, hfz24_3, hfz24_4⟩ := bf5 BKz1
  go_wp2_with (first | ((with_reducible refine gate_callee (f := 38) rfl ?_); refine goesL_ (some 15) rfl rfl Try.func38 (by kernel_rfl) rfl #[.agg #[.string a0_0, .int .i64 a0_1, .slice A0_2 l0_2.length c0_2, .slice A0_3 l0_3.length c0_3, .bool a0_4]] rfl (by (try simp only [List.map_toArray, List.map_cons, List.map_nil]) <;> rfl) ?_; (with_reducible refine (r8_Right.calls k a0_0 a0_1 _ _ l0_2 _ _ l0_3 a0_4 false _ ?side1 ?side2 ?side3 ?side4 A16.out).mono ?_); (case side1 => exact Kd.C_below HR0_2.out (sC_ HB)); (case side2 => exact HC0_2.out); (case side3 => exact Kd.C_below HR0_3.out (sC_ HB)); (case side4 => exact HC0_3.out); rintro e w25 ⟨rfl, hb⟩; refine ⟨_, rfl, ?_⟩; have n0_ := am (Kd.R_below (by (with_reducible repeat first | apply ra | apply rn | apply rd); exact (rs5 HOz7 BKz12 (by decide))) hb); have n1_ := am (Kd.R_below (by (with_reducible repeat first | apply ra | apply rn | apply rd); exact (rs5 HOz10 BKz12 (by decide))) hb); have n2_ := am (bkB (g := gbz1) (o := .cells #[.string a0_0, .int .i64 a0_1, .slice A0_2 l0_2.length c0_2, .slice A0_3 l0_3.length c0_3, .bool a0_4] 50 (0, 0)) (by (with_reducible repeat (first | refine blk_drewN ?_ _ | refine bkD ?_ | refine bkA ?_ _)); refine br5 ?_ NBz1_z12; exact pk BKz1) hb); have n3_ := am (bkB (g := gbz2) (o := .cells #[.string (⟨#[]⟩ : ByteArray), .int .i64 0, .slice none 0 0, .slice none 0 0, .bool false] 50 (0, 0)) (by (with_reducible repeat (first | refine blk_drewN ?_ _ | refine bkD ?_ | refine bkA ?_ _)); refine br5 ?_ NBz2_z12; exact pk BKz2) hb); have n4_ := am (bkB (g := gbz12) (o := .cells #[.string tz3, .int .i64 tz4, .slice Ao14 tz5.length co14, .slice Ao15 tz8.length co15, .bool tz11] 50 (0, 0)) (by (with_reducible repeat (first | refine blk_drewN ?_ _ | refine bkD ?_ | refine bkA ?_ _)); apply bp5; exact pk BKz12) hb); have n5_ := am (below_step (sC_ HB) hb); clear HOz7; clear HOz10; clear BKz1; clear BKz2; clear BKz12; clear HB; have HOz7 := n0_; have HOz10 := n1_; have BKz1 := n2_; have BKz2 := n3_; have BKz12 := n4_; have HB := n5_; clear n0_ n1_ n2_ n3_ n4_ n5_; (try clear hi)))
  go_meet
  case rel => exact ⟨_, (true), (by first | rfl | (simp; done) | (simp [*]; done)), H', ⟨by first | omega | exact Nat.le_refl _⟩, (sr_ HOz7), (sr_ HOz10), (sk_ BKz1), (sk_ BKz2), (sk_ BKz12), (sB_ HB)⟩
 clear HC4
 try clear c1
 try clear c2
 try clear p2
 try clear c3
 try clear c5
 try clear c7
 try clear c11
 try clear c12
 try clear c17
 try clear c18
 try clear c19
 try clear c22
 try clear c23
 try clear hcz13_0
 try clear hcz13_1
 try clear hcz13_2
 try clear hcz13_3
 try clear hcz13_4
 try clear hcz20_0
 try clear hcz20_1
 try clear hcz20_2
 try clear hcz20_3
 try clear hcz20_4
 try clear hcz24_0
 try clear hcz24_1
 try clear hcz24_2
 try clear hcz24_3
 try clear hcz24_4
 try clear hcz8_0
 try clear hcz8_1
 try clear hcz8_2
 try clear hcz8_3
 try clear hcz8_4
 try clear hfz13_0
 try clear hfz13_1
 try clear hfz13_2
 try clear hfz13_3
 try clear hfz13_4
 try clear hfz20_0
 try clear hfz20_1
 try clear hfz20_2
 try clear hfz20_3
 try clear hfz20_4
 try clear hfz24_0
 try clear hfz24_1
 try clear hfz24_2
 try clear hfz24_3
 try clear hfz24_4
 try clear hfz8_0
 try clear hfz8_1
 try clear hfz8_2
 try clear hfz8_3
 try clear hfz8_4
 obtain ⟨kq, x21_3, rfl, HA, HJ3, HO_z13002, HO_z13003, BKz1, BKz2, BKz12, HB⟩ := hcut
 cases kq with
 | zero => exact absurd HA.out (by simp [r8_Label.j0])
 | succ kj3 => ?_
 have H := HA.out
 clear HA
 simp only [r8_Label.j0] at H
 by_cases c26 : x21_3 = true
 ·subst c26
  have H1 : (some ((⟨#[]⟩ : ByteArray), tz3, tz4, tz5, tz8, tz11, 1)) = some (r1, r2, r3, r4, r5, r6, r7) := by rw [if_pos rfl] at H; exact H
  clear H
  have H := H1
  clear H1
  simp only [Option.some.injEq, Prod.mk.injEq] at H
  obtain ⟨rfl, rfl, rfl, rfl, rfl, rfl, rfl⟩ := H
  try go_wp2
  have n0_ := am (Kd.R_drew HO_z13002.out)
  have n1_ := am (Kd.R_drew HO_z13003.out)
  have n2_ := am (bkD BKz1.out)
  have n3_ := am (bkD BKz2.out)
  have n4_ := am (bkD BKz12.out)
  have n5_ := am (below_drew1 HB.out)
  clear HO_z13002 HO_z13003 BKz1 BKz2 BKz12 HB; have HO_z13002 := n0_; have HO_z13003 := n1_; have BKz1 := n2_; have BKz2 := n3_; have BKz12 := n4_; have HB := n5_; clear n0_ n1_ n2_ n3_ n4_ n5_
  refine start_ (n := 4) (S := fun w' => w'.cell? ⟨gbz12, 0, none⟩ = some (.string tz3) ∧ w'.cell? ⟨gbz12, 1, none⟩ = some (.int .i64 tz4) ∧ w'.cell? ⟨gbz12, 2, none⟩ = some (.slice Ao14 tz5.length co14) ∧ w'.cell? ⟨gbz12, 3, none⟩ = some (.slice Ao15 tz8.length co15) ∧ w'.cell? ⟨gbz12, 4, none⟩ = some (.bool tz11)) (ds := []) #[false, false, false, false] (by kernel_rfl) rfl rfl (bc5 BKz12) (fun hHeld => ?_)
  generalize wc.drew = w27 at HO_z13002 HO_z13003 BKz1 BKz2 BKz12 HB hHeld ⊢
  refine pn_ 1 (some 4) rfl rfl (.inl ⟨by rfl, by intro w'; go_simp; with_reducible rfl⟩) (by simp only [Act.put, sa_, s0_, s1_, i64_w, i32_w]; rfl) ?_
  refine tn_ 0 (some 22) rfl rfl (.inl ⟨by rfl, by rintro w' ⟨s0, s1, s2, s3, s4⟩; go_simp; with_reducible rfl⟩) hHeld (by simp only [Act.put, sa_, s0_, s1_, i64_w, i32_w]; rfl) ?_
  refine one_ (i := 2) (N := none) #[true, true, true, false] rfl rfl (by kernel_rfl) (by decide) (fun K hK => ?_)
  have hs28 : w27.cell? ⟨gbz2, 0, none⟩ = some (.string (⟨#[]⟩ : ByteArray)) := (blk_cell BKz2.out 0).trans rfl
  have hfs28 := blk_frozen BKz2.out 0
  have := NBz1_z2.out
  have := NBz12_z2.out
  have := NBz2_z1.out
  have := NBz2_z12.out
  have hs29 : w27.cell? ⟨gbz2, 1, none⟩ = some (.int .i64 0) := (blk_cell BKz2.out 1).trans rfl
  have hfs29 := blk_frozen BKz2.out 1
  have := NBz1_z2.out
  have := NBz12_z2.out
  have := NBz2_z1.out
  have := NBz2_z12.out
  have hs30 : w27.cell? ⟨gbz2, 2, none⟩ = some (.slice none 0 0) := (blk_cell BKz2.out 2).trans rfl
  have hfs30 := blk_frozen BKz2.out 2
  have := NBz1_z2.out
  have := NBz12_z2.out
  have := NBz2_z1.out
  have := NBz2_z12.out
  have hs31 : w27.cell? ⟨gbz2, 3, none⟩ = some (.slice none 0 0) := (blk_cell BKz2.out 3).trans rfl
  have hfs31 := blk_frozen BKz2.out 3
  have := NBz1_z2.out
  have := NBz12_z2.out
  have := NBz2_z1.out
  have := NBz2_z12.out
  have hs32 : w27.cell? ⟨gbz2, 4, none⟩ = some (.bool false) := (blk_cell BKz2.out 4).trans rfl
  have hfs32 := blk_frozen BKz2.out 4
  have := NBz1_z2.out
  have := NBz12_z2.out
  have := NBz2_z1.out
  have := NBz2_z12.out
  refine skip_ (by rfl) rfl (by go_simp; rfl) ?_
  refine hK.out _ _ ⟨((cf5 NBz12_z2).trans (hHeld.1)), ((cf5 NBz12_z2).trans (hHeld.2.1)), ((cf5 NBz12_z2).trans (hHeld.2.2.1)), ((cf5 NBz12_z2).trans (hHeld.2.2.2.1)), ((cf5 NBz12_z2).trans (hHeld.2.2.2.2))⟩ (fun hHeld => ?_)
  clear hK K
  refine pn_ 3 (some 6) rfl rfl (.inl ⟨by rfl, by intro w'; go_simp; with_reducible rfl⟩) (by simp only [Act.put, sa_, s0_, s1_, i64_w, i32_w]; rfl) ?_
  refine done_ (by kernel_rfl) ?_
  try go_wp2
  refine bodyPost_ret (results_list (rs := [.tmp 4, .cell 5 50, .tmp 6]) rfl (by simp) (.tmp (.cell gbz2 50 #[.string tz3, .int .i64 tz4, .slice Ao14 tz5.length co14, .slice Ao15 tz8.length co15, .bool tz11] (0, 0) _ rfl (by (with_reducible repeat (first | refine blk_drewN ?_ _ | refine bkD ?_ | refine bkA ?_ _)); apply bp5; exact pk BKz2) Try.underlying50 rfl (by kernel_rfl) (.tmp .nil)))) rfl ?_
  exact ⟨_, _, by first | rfl | (simp <;> rfl) | (simp [*] <;> rfl), by (with_reducible repeat first | apply ra | apply rn | apply rd); exact Kd.R_mono (rf5 (Kd.R_types HO_z13002.out BKz2.out (by decide)) (fun _ hk => hk.2)) (fun _ hk => trivial), by (with_reducible repeat first | apply ra | apply rn | apply rd); exact Kd.R_mono (rf5 (Kd.R_types HO_z13003.out BKz2.out (by decide)) (fun _ hk => hk.2)) (fun _ hk => trivial), sC_ HB⟩
 replace c26 := Bool.eq_false_iff.mpr c26
 subst c26
 have H1 : (r8_Label.l0 kj3 a1 0 a0_0 a0_1 l0_2 l0_3 a0_4 tz3 tz4 tz5 tz8 tz11) = some (r1, r2, r3, r4, r5, r6, r7) := by rw [if_neg (show ¬ (false = true) by decide)] at H; exact H
 clear H
 have H := H1
 clear H1
 have H' := am H
 clear H
 go_wp2
 go_loopg [8] kj3 (fun kq v8 w' => ∃ (x8_2 : Int) (xz3000_2 : ByteArray) (xz3001_2 : Int) (xz3004_2 : Bool), v8 = .int .i64 x8_2 ∧ Aside0 (r8_Label.l0 kq a1 x8_2 a0_0 a0_1 l0_2 l0_3 a0_4 tz3 tz4 tz5 tz8 tz11 = some (r1, r2, r3, r4, r5, r6, r7)) ∧ Aside0 (kq ≤ kj3) ∧ Aside0 (Kd.R k72 72 w' w.heap.size (fun _ => True) (.slice Ao14 tz5.length co14) tz5) ∧ Aside0 (Kd.R k74 74 w' w.heap.size (fun _ => True) (.slice Ao15 tz8.length co15) tz8) ∧ Aside0 (w'.heap[gbz1]? = some (.cells #[.string a0_0, .int .i64 a0_1, (.slice A0_2 l0_2.length c0_2), (.slice A0_3 l0_3.length c0_3), .bool a0_4] 50 (0, 0))) ∧ Aside0 (w'.heap[gbz2]? = some (.cells #[.string xz3000_2, .int .i64 xz3001_2, (.slice none 0 0), (.slice none 0 0), .bool xz3004_2] 50 (0, 0))) ∧ Aside0 (w'.heap[gbz12]? = some (.cells #[.string tz3, .int .i64 tz4, (.slice Ao14 tz5.length co14), (.slice Ao15 tz8.length co15), .bool tz11] 50 (0, 0))) ∧ Aside0 (Below w.heap.size w w'))
 case atStart => exact ⟨(0), ((⟨#[]⟩ : ByteArray)), (0), (false), (by first | rfl | (simp; done) | (simp [*]; done)), H', ⟨Nat.le_refl _⟩, (sr_ HO_z13002), (sr_ HO_z13003), (sk_ BKz1), (sk_ BKz2), (sk_ BKz12), (sB_ HB)⟩
 clear H'
 try clear c1
 try clear c2
 try clear p2
 try clear c3
 try clear c5
 try clear c7
 try clear c11
 try clear c12
 try clear c17
 try clear c18
 try clear c19
 try clear c22
 try clear c23
 try clear c26
 try clear hcz13_0
 try clear hcz13_1
 try clear hcz13_2
 try clear hcz13_3
 try clear hcz13_4
 try clear hcz20_0
 try clear hcz20_1
 try clear hcz20_2
 try clear hcz20_3
 try clear hcz20_4
 try clear hcz24_0
 try clear hcz24_1
 try clear hcz24_2
 try clear hcz24_3
 try clear hcz24_4
 try clear hcz8_0
 try clear hcz8_1
 try clear hcz8_2
 try clear hcz8_3
 try clear hcz8_4
 try clear hfz13_0
 try clear hfz13_1
 try clear hfz13_2
 try clear hfz13_3
 try clear hfz13_4
 try clear hfz20_0
 try clear hfz20_1
 try clear hfz20_2
 try clear hfz20_3
 try clear hfz20_4
 try clear hfz24_0
 try clear hfz24_1
 try clear hfz24_2
 try clear hfz24_3
 try clear hfz24_4
 try clear hfz8_0
 try clear hfz8_1
 try clear hfz8_2
 try clear hfz8_3
 try clear hfz8_4
 try clear p2
 obtain ⟨x8_2, xz3000_2, xz3001_2, xz3004_2, rfl, HA, HK2, HO_z13002, HO_z13003, BKz1, BKz2, BKz12, HB⟩ := hrel
 cases gk with
 | zero => exact absurd HA.out (by simp [r8_Label.l0])
 | succ k2 => ?_
 have H := HA.out
 clear HA
 simp only [r8_Label.l0] at H
 by_cases c33 : x8_2 < (l0_2.length : Int)
 ·rw [if_pos c33] at H
  have c33b0 : decide (x8_2 < (l0_2.length : Int)) = true := decide_eq_true c33
  clear c33
  by_cases c34 : 0 ≤ x8_2
  rotate_left
  ·rw [if_neg c34] at H
   exact absurd H (by simp)
  rw [if_pos c34] at H
  have c34b0 : decide (0 ≤ x8_2) = true := decide_eq_true c34
  clear c34
  by_cases c35 : ((rd_T72 l0_2 x8_2).f0).toList = a1.toList
  rotate_left
  ·rw [if_neg c35] at H
   have c35b0 : (((rd_T72 l0_2 x8_2).f0).toList == a1.toList) = false := beq_eq_false_iff_ne.mpr c35
   have c35b1 : (((rd_T72 l0_2 x8_2).f0).toList != a1.toList) = true := bne_iff_ne.mpr c35
   have H' := am H
   clear H
   have hnb45 := NBz1_z2.out
   have hnc45 := NBz2_z1.out
   have hnb46 := NBz1_z12.out
   have hnc46 := NBz12_z1.out
   obtain ⟨hcz47_0, hcz47_1, hcz47_2, hcz47_3, hcz47_4⟩ := bc5 BKz1
   obtain ⟨hfz47_0, hfz47_1, hfz47_2, hfz47_3, hfz47_4⟩ := bf5 BKz1
   have pz14 : 0 ≤ (x8_2 : Int) := of_decide_eq_true (by first | (with_reducible assumption) | assumption)
   have qz14 : x8_2 < (l0_2.length : Int) := of_decide_eq_true (by first | (with_reducible assumption) | assumption)
   obtain ⟨adz14, ez14, hxz14_0, hxz14_1⟩ := at_T72 HR0_2.out x8_2 pz14 qz14
   cases ez14
   replace hxz14_0 := (HB.out.cell (World.block_lt_of_cell? w _ hxz14_0)).trans hxz14_0
   replace hxz14_1 := (HB.out.cell (World.block_lt_of_cell? w _ hxz14_1)).trans hxz14_1
   replace pz14 := eq_true pz14
   replace qz14 := eq_true qz14
   go_wp2
   go_roundg k2
   case measure => have := HJ3.out; have := HK2.out; omega
   case rel => exact ⟨(wrap64 (x8_2 + 1)), (xz3000_2), (xz3001_2), (xz3004_2), (by first | rfl | (simp; done) | (simp [*]; done)), H', ⟨by have := HJ3.out; have := HK2.out; omega⟩, (sr_ HO_z13002), (sr_ HO_z13003), (sk_ BKz1), (sk_ BKz2), (sk_ BKz12), (sB_ HB)⟩
  rw [if_pos c35] at H
  have c35b0 : (((rd_T72 l0_2 x8_2).f0).toList == a1.toList) = true := beq_iff_eq.mpr c35
  have c35b1 : (((rd_T72 l0_2 x8_2).f0).toList != a1.toList) = false := bne_eq_false_iff_eq.mpr c35
  clear c35
  simp only [Option.some.injEq, Prod.mk.injEq] at H
  obtain ⟨rfl, rfl, rfl, rfl, rfl, rfl, rfl⟩ := H
  have hnb36 := NBz1_z2.out
  have hnc36 := NBz2_z1.out
  have hnb37 := NBz1_z12.out
  have hnc37 := NBz12_z1.out
  obtain ⟨hcz38_0, hcz38_1, hcz38_2, hcz38_3, hcz38_4⟩ := bc5 BKz1
  obtain ⟨hfz38_0, hfz38_1, hfz38_2, hfz38_3, hfz38_4⟩ := bf5 BKz1
  have pz14 : 0 ≤ (x8_2 : Int) := of_decide_eq_true (by first | (with_reducible assumption) | assumption)
  have qz14 : x8_2 < (l0_2.length : Int) := of_decide_eq_true (by first | (with_reducible assumption) | assumption)
  obtain ⟨adz14, ez14, hxz14_0, hxz14_1⟩ := at_T72 HR0_2.out x8_2 pz14 qz14
  cases ez14
  replace hxz14_0 := (HB.out.cell (World.block_lt_of_cell? w _ hxz14_0)).trans hxz14_0
  replace hxz14_1 := (HB.out.cell (World.block_lt_of_cell? w _ hxz14_1)).trans hxz14_1
  replace pz14 := eq_true pz14
  replace qz14 := eq_true qz14
  try go_wp2
  have n0_ := am (Kd.R_drew HO_z13002.out)
  have n1_ := am (Kd.R_drew HO_z13003.out)
  have n2_ := am (bkD BKz1.out)
  have n3_ := am (bkD BKz2.out)
  have n4_ := am (bkD BKz12.out)
  have n5_ := am (below_drew1 HB.out)
  clear HO_z13002 HO_z13003 BKz1 BKz2 BKz12 HB; have HO_z13002 := n0_; have HO_z13003 := n1_; have BKz1 := n2_; have BKz2 := n3_; have BKz12 := n4_; have HB := n5_; clear n0_ n1_ n2_ n3_ n4_ n5_
  have pz15 : 0 ≤ (x8_2 : Int) := of_decide_eq_true (by first | (with_reducible assumption) | assumption)
  have qz15 : x8_2 < (l0_2.length : Int) := of_decide_eq_true (by first | (with_reducible assumption) | assumption)
  obtain ⟨adz15, ez15, hxz15_0, hxz15_1⟩ := at_T72 HR0_2.out x8_2 pz15 qz15
  have hwz15_1 := hxz15_1
  have hwz15_0 := hxz15_0
  obtain rfl : adz14 = adz15 := (by injection ez15)
  replace hxz15_0 := (HB.out.cell (World.block_lt_of_cell? w _ hxz15_0)).trans hxz15_0
  replace hxz15_1 := (HB.out.cell (World.block_lt_of_cell? w _ hxz15_1)).trans hxz15_1
  replace pz15 := eq_true pz15
  replace qz15 := eq_true qz15
  refine start_ (n := 10) (S := fun w' => w'.cell? ⟨gbz1, 0, none⟩ = some (.string a0_0) ∧ w'.cell? ⟨gbz1, 1, none⟩ = some (.int .i64 a0_1) ∧ w'.cell? ⟨gbz1, 2, none⟩ = some (.slice (some adz14) l0_2.length c0_2) ∧ w'.cell? ⟨gbz1, 3, none⟩ = some (.slice A0_3 l0_3.length c0_3) ∧ w'.cell? ⟨gbz1, 4, none⟩ = some (.bool a0_4) ∧ w'.cell? ⟨gbz12, 0, none⟩ = some (.string tz3) ∧ w'.cell? ⟨gbz12, 1, none⟩ = some (.int .i64 tz4) ∧ w'.cell? ⟨gbz12, 2, none⟩ = some (.slice Ao14 tz5.length co14) ∧ w'.cell? ⟨gbz12, 3, none⟩ = some (.slice Ao15 tz8.length co15) ∧ w'.cell? ⟨gbz12, 4, none⟩ = some (.bool tz11) ∧ w'.cell? (adz14.add ((x8_2).toNat * 2)) = some (.string ((rd_T72 l0_2 x8_2).f0)) ∧ w'.cell? ⟨(adz14.add ((x8_2).toNat * 2)).block, (adz14.add ((x8_2).toNat * 2)).off + 1, none⟩ = some (.string ((rd_T72 l0_2 x8_2).f1))) (ds := []) #[false, false, false, false, false, false, false, false, false, false] (by kernel_rfl) rfl rfl ⟨(blk_cell BKz1.out 0).trans rfl, (blk_cell BKz1.out 1).trans rfl, (blk_cell BKz1.out 2).trans rfl, (blk_cell BKz1.out 3).trans rfl, (blk_cell BKz1.out 4).trans rfl, (blk_cell BKz12.out 0).trans rfl, (blk_cell BKz12.out 1).trans rfl, (blk_cell BKz12.out 2).trans rfl, (blk_cell BKz12.out 3).trans rfl, (blk_cell BKz12.out 4).trans rfl, ((HB.out.cell (World.block_lt_of_cell? w _ hwz15_0)).trans hwz15_0), ((HB.out.cell (World.block_lt_of_cell? w _ hwz15_1)).trans hwz15_1)⟩ (fun hHeld => ?_); refine with_tabW r8_Label.tab8 r8_Label.bits8 (fun HT_ HW_ => ?_)
  generalize wr.drew = w39 at HO_z13002 HO_z13003 BKz1 BKz2 BKz12 HB hxz15_0 hxz15_1 hHeld ⊢
  refine pv_ 0 (some 38) HT_ ?_
  refine pv_ 2 (some 40) HT_ ?_
  refine tk_ 1 (some 39) HT_ HW_ rfl rfl (.inl ⟨by rfl, by rintro w' ⟨s0, s1, s2, s3, s4, s5, s6, s7, s8, s9, s10, s11⟩; go_simp; with_reducible rfl⟩) hHeld (by simp only [Act.put, sa_, s0_, s1_, i64_w, i32_w]; rfl) ?_
  refine pv_ 3 (some 41) HT_ ?_
  refine pv_ 4 (some 42) HT_ ?_
  refine tk_ 5 (some 43) HT_ HW_ rfl rfl (.inl ⟨by rfl, by rintro w' ⟨s0, s1, s2, s3, s4, s5, s6, s7, s8, s9, s10, s11⟩; go_simp; with_reducible rfl⟩) hHeld (by simp only [Act.put, sa_, s0_, s1_, i64_w, i32_w]; rfl) ?_
  refine pv_ 7 (some 4) HT_ ?_
  refine tk_ 6 (some 44) HT_ HW_ rfl rfl (.inl ⟨by rfl, by rintro w' ⟨s0, s1, s2, s3, s4, s5, s6, s7, s8, s9, s10, s11⟩; go_simp; with_reducible rfl⟩) hHeld (by simp only [Act.put, sa_, s0_, s1_, i64_w, i32_w]; rfl) ?_
  refine on_ 8 none HT_ rfl rfl (fun K hK => ?_)
  have hs40 : w39.cell? ⟨gbz2, 0, none⟩ = some (.string xz3000_2) := (blk_cell BKz2.out 0).trans rfl
  have hfs40 := blk_frozen BKz2.out 0
  have := NBz1_z2.out
  have := NBz12_z2.out
  have := NBz2_z1.out
  have := NBz2_z12.out
  have hs41 : w39.cell? ⟨gbz2, 1, none⟩ = some (.int .i64 xz3001_2) := (blk_cell BKz2.out 1).trans rfl
  have hfs41 := blk_frozen BKz2.out 1
  have := NBz1_z2.out
  have := NBz12_z2.out
  have := NBz2_z1.out
  have := NBz2_z12.out
  have hs42 : w39.cell? ⟨gbz2, 2, none⟩ = some (.slice none 0 0) := (blk_cell BKz2.out 2).trans rfl
  have hfs42 := blk_frozen BKz2.out 2
  have := NBz1_z2.out
  have := NBz12_z2.out
  have := NBz2_z1.out
  have := NBz2_z12.out
  have hs43 : w39.cell? ⟨gbz2, 3, none⟩ = some (.slice none 0 0) := (blk_cell BKz2.out 3).trans rfl
  have hfs43 := blk_frozen BKz2.out 3
  have := NBz1_z2.out
  have := NBz12_z2.out
  have := NBz2_z1.out
  have := NBz2_z12.out
  have hs44 : w39.cell? ⟨gbz2, 4, none⟩ = some (.bool xz3004_2) := (blk_cell BKz2.out 4).trans rfl
  have hfs44 := blk_frozen BKz2.out 4
  have := NBz1_z2.out
  have := NBz12_z2.out
  have := NBz2_z1.out
  have := NBz2_z12.out
  refine skip_ (by rfl) rfl (by go_simp; rfl) ?_
  refine hK.out _ _ ⟨((cf5 NBz1_z2).trans (hHeld.1)), ((cf5 NBz1_z2).trans (hHeld.2.1)), ((cf5 NBz1_z2).trans (hHeld.2.2.1)), ((cf5 NBz1_z2).trans (hHeld.2.2.2.1)), ((cf5 NBz1_z2).trans (hHeld.2.2.2.2.1)), ((cf5 NBz12_z2).trans (hHeld.2.2.2.2.2.1)), ((cf5 NBz12_z2).trans (hHeld.2.2.2.2.2.2.1)), ((cf5 NBz12_z2).trans (hHeld.2.2.2.2.2.2.2.1)), ((cf5 NBz12_z2).trans (hHeld.2.2.2.2.2.2.2.2.1)), ((cf5 NBz12_z2).trans (hHeld.2.2.2.2.2.2.2.2.2.1)), ((cell_far (p := ⟨gbz2, _, none⟩) (by first | exact Nat.ne_of_lt (Nat.lt_of_lt_of_le (by have := World.block_lt_of_cell? _ _ hwz15_0; first | rwa [add_block] at this | exact this) GWz2.out) | (rw [add_block]; exact Nat.ne_of_lt (Nat.lt_of_lt_of_le (by have := World.block_lt_of_cell? _ _ hwz15_0; first | rwa [add_block] at this | exact this) GWz2.out)) | (show (Addr.add _ _).block ≠ _; rw [add_block]; exact Nat.ne_of_lt (Nat.lt_of_lt_of_le (by have := World.block_lt_of_cell? _ _ hwz15_0; first | rwa [add_block] at this | exact this) GWz2.out)) | (dsimp only; exact Nat.ne_of_lt (Nat.lt_of_lt_of_le (by have := World.block_lt_of_cell? _ _ hwz15_0; first | rwa [add_block] at this | exact this) GWz2.out))) _).trans (((cell_far (p := ⟨gbz2, _, none⟩) (by first | exact Nat.ne_of_lt (Nat.lt_of_lt_of_le (by have := World.block_lt_of_cell? _ _ hwz15_0; first | rwa [add_block] at this | exact this) GWz2.out) | (rw [add_block]; exact Nat.ne_of_lt (Nat.lt_of_lt_of_le (by have := World.block_lt_of_cell? _ _ hwz15_0; first | rwa [add_block] at this | exact this) GWz2.out)) | (show (Addr.add _ _).block ≠ _; rw [add_block]; exact Nat.ne_of_lt (Nat.lt_of_lt_of_le (by have := World.block_lt_of_cell? _ _ hwz15_0; first | rwa [add_block] at this | exact this) GWz2.out)) | (dsimp only; exact Nat.ne_of_lt (Nat.lt_of_lt_of_le (by have := World.block_lt_of_cell? _ _ hwz15_0; first | rwa [add_block] at this | exact this) GWz2.out))) _).trans (((cell_far (p := ⟨gbz2, _, none⟩) (by first | exact Nat.ne_of_lt (Nat.lt_of_lt_of_le (by have := World.block_lt_of_cell? _ _ hwz15_0; first | rwa [add_block] at this | exact this) GWz2.out) | (rw [add_block]; exact Nat.ne_of_lt (Nat.lt_of_lt_of_le (by have := World.block_lt_of_cell? _ _ hwz15_0; first | rwa [add_block] at this | exact this) GWz2.out)) | (show (Addr.add _ _).block ≠ _; rw [add_block]; exact Nat.ne_of_lt (Nat.lt_of_lt_of_le (by have := World.block_lt_of_cell? _ _ hwz15_0; first | rwa [add_block] at this | exact this) GWz2.out)) | (dsimp only; exact Nat.ne_of_lt (Nat.lt_of_lt_of_le (by have := World.block_lt_of_cell? _ _ hwz15_0; first | rwa [add_block] at this | exact this) GWz2.out))) _).trans (((cell_far (p := ⟨gbz2, _, none⟩) (by first | exact Nat.ne_of_lt (Nat.lt_of_lt_of_le (by have := World.block_lt_of_cell? _ _ hwz15_0; first | rwa [add_block] at this | exact this) GWz2.out) | (rw [add_block]; exact Nat.ne_of_lt (Nat.lt_of_lt_of_le (by have := World.block_lt_of_cell? _ _ hwz15_0; first | rwa [add_block] at this | exact this) GWz2.out)) | (show (Addr.add _ _).block ≠ _; rw [add_block]; exact Nat.ne_of_lt (Nat.lt_of_lt_of_le (by have := World.block_lt_of_cell? _ _ hwz15_0; first | rwa [add_block] at this | exact this) GWz2.out)) | (dsimp only; exact Nat.ne_of_lt (Nat.lt_of_lt_of_le (by have := World.block_lt_of_cell? _ _ hwz15_0; first | rwa [add_block] at this | exact this) GWz2.out))) _).trans (((cell_far (p := ⟨gbz2, _, none⟩) (by first | exact Nat.ne_of_lt (Nat.lt_of_lt_of_le (by have := World.block_lt_of_cell? _ _ hwz15_0; first | rwa [add_block] at this | exact this) GWz2.out) | (rw [add_block]; exact Nat.ne_of_lt (Nat.lt_of_lt_of_le (by have := World.block_lt_of_cell? _ _ hwz15_0; first | rwa [add_block] at this | exact this) GWz2.out)) | (show (Addr.add _ _).block ≠ _; rw [add_block]; exact Nat.ne_of_lt (Nat.lt_of_lt_of_le (by have := World.block_lt_of_cell? _ _ hwz15_0; first | rwa [add_block] at this | exact this) GWz2.out)) | (dsimp only; exact Nat.ne_of_lt (Nat.lt_of_lt_of_le (by have := World.block_lt_of_cell? _ _ hwz15_0; first | rwa [add_block] at this | exact this) GWz2.out))) _).trans (hHeld.2.2.2.2.2.2.2.2.2.2.1)))))))))), ((cell_far (p := ⟨gbz2, _, none⟩) (by first | exact Nat.ne_of_lt (Nat.lt_of_lt_of_le (by have := World.block_lt_of_cell? _ _ hwz15_1; first | rwa [add_block] at this | exact this) GWz2.out) | (rw [add_block]; exact Nat.ne_of_lt (Nat.lt_of_lt_of_le (by have := World.block_lt_of_cell? _ _ hwz15_1; first | rwa [add_block] at this | exact this) GWz2.out)) | (show (Addr.add _ _).block ≠ _; rw [add_block]; exact Nat.ne_of_lt (Nat.lt_of_lt_of_le (by have := World.block_lt_of_cell? _ _ hwz15_1; first | rwa [add_block] at this | exact this) GWz2.out)) | (dsimp only; exact Nat.ne_of_lt (Nat.lt_of_lt_of_le (by have := World.block_lt_of_cell? _ _ hwz15_1; first | rwa [add_block] at this | exact this) GWz2.out))) _).trans (((cell_far (p := ⟨gbz2, _, none⟩) (by first | exact Nat.ne_of_lt (Nat.lt_of_lt_of_le (by have := World.block_lt_of_cell? _ _ hwz15_1; first | rwa [add_block] at this | exact this) GWz2.out) | (rw [add_block]; exact Nat.ne_of_lt (Nat.lt_of_lt_of_le (by have := World.block_lt_of_cell? _ _ hwz15_1; first | rwa [add_block] at this | exact this) GWz2.out)) | (show (Addr.add _ _).block ≠ _; rw [add_block]; exact Nat.ne_of_lt (Nat.lt_of_lt_of_le (by have := World.block_lt_of_cell? _ _ hwz15_1; first | rwa [add_block] at this | exact this) GWz2.out)) | (dsimp only; exact Nat.ne_of_lt (Nat.lt_of_lt_of_le (by have := World.block_lt_of_cell? _ _ hwz15_1; first | rwa [add_block] at this | exact this) GWz2.out))) _).trans (((cell_far (p := ⟨gbz2, _, none⟩) (by first | exact Nat.ne_of_lt (Nat.lt_of_lt_of_le (by have := World.block_lt_of_cell? _ _ hwz15_1; first | rwa [add_block] at this | exact this) GWz2.out) | (rw [add_block]; exact Nat.ne_of_lt (Nat.lt_of_lt_of_le (by have := World.block_lt_of_cell? _ _ hwz15_1; first | rwa [add_block] at this | exact this) GWz2.out)) | (show (Addr.add _ _).block ≠ _; rw [add_block]; exact Nat.ne_of_lt (Nat.lt_of_lt_of_le (by have := World.block_lt_of_cell? _ _ hwz15_1; first | rwa [add_block] at this | exact this) GWz2.out)) | (dsimp only; exact Nat.ne_of_lt (Nat.lt_of_lt_of_le (by have := World.block_lt_of_cell? _ _ hwz15_1; first | rwa [add_block] at this | exact this) GWz2.out))) _).trans (((cell_far (p := ⟨gbz2, _, none⟩) (by first | exact Nat.ne_of_lt (Nat.lt_of_lt_of_le (by have := World.block_lt_of_cell? _ _ hwz15_1; first | rwa [add_block] at this | exact this) GWz2.out) | (rw [add_block]; exact Nat.ne_of_lt (Nat.lt_of_lt_of_le (by have := World.block_lt_of_cell? _ _ hwz15_1; first | rwa [add_block] at this | exact this) GWz2.out)) | (show (Addr.add _ _).block ≠ _; rw [add_block]; exact Nat.ne_of_lt (Nat.lt_of_lt_of_le (by have := World.block_lt_of_cell? _ _ hwz15_1; first | rwa [add_block] at this | exact this) GWz2.out)) | (dsimp only; exact Nat.ne_of_lt (Nat.lt_of_lt_of_le (by have := World.block_lt_of_cell? _ _ hwz15_1; first | rwa [add_block] at this | exact this) GWz2.out))) _).trans (((cell_far (p := ⟨gbz2, _, none⟩) (by first | exact Nat.ne_of_lt (Nat.lt_of_lt_of_le (by have := World.block_lt_of_cell? _ _ hwz15_1; first | rwa [add_block] at this | exact this) GWz2.out) | (rw [add_block]; exact Nat.ne_of_lt (Nat.lt_of_lt_of_le (by have := World.block_lt_of_cell? _ _ hwz15_1; first | rwa [add_block] at this | exact this) GWz2.out)) | (show (Addr.add _ _).block ≠ _; rw [add_block]; exact Nat.ne_of_lt (Nat.lt_of_lt_of_le (by have := World.block_lt_of_cell? _ _ hwz15_1; first | rwa [add_block] at this | exact this) GWz2.out)) | (dsimp only; exact Nat.ne_of_lt (Nat.lt_of_lt_of_le (by have := World.block_lt_of_cell? _ _ hwz15_1; first | rwa [add_block] at this | exact this) GWz2.out))) _).trans (hHeld.2.2.2.2.2.2.2.2.2.2.2))))))))))⟩ (fun hHeld => ?_)
  clear hK K
  refine pv_ 9 (some 6) HT_ ?_
  refine done_ (done_of HT_.out (by kernel_rfl)) ?_
  try go_wp2
  refine bodyPost_ret (results_list (rs := [.tmp 4, .cell 5 50, .tmp 6]) rfl (by simp) (.tmp (.cell gbz2 50 #[.string tz3, .int .i64 tz4, .slice Ao14 tz5.length co14, .slice Ao15 tz8.length co15, .bool tz11] (0, 0) _ rfl (by (with_reducible repeat (first | refine blk_drewN ?_ _ | refine bkD ?_ | refine bkA ?_ _)); apply bp5; exact pk BKz2) Try.underlying50 rfl (by kernel_rfl) (.tmp .nil)))) rfl ?_
  exact ⟨_, _, by first | rfl | (simp <;> rfl) | (simp [*] <;> rfl), by (with_reducible repeat first | apply ra | apply rn | apply rd); exact Kd.R_mono (rf5 (Kd.R_types HO_z13002.out BKz2.out (by decide)) (fun _ hk => hk.2)) (fun _ hk => trivial), by (with_reducible repeat first | apply ra | apply rn | apply rd); exact Kd.R_mono (rf5 (Kd.R_types HO_z13003.out BKz2.out (by decide)) (fun _ hk => hk.2)) (fun _ hk => trivial), sC_ HB⟩
 rw [if_neg c33] at H
 have c33b0 : decide (x8_2 < (l0_2.length : Int)) = false := decide_eq_false c33
 clear c33
 by_cases c48 : (l0_2.length : Int) ≥ 2000
 ·rw [if_pos c48] at H
  have c48b0 : decide (2000 ≤ (l0_2.length : Int)) = true := decide_eq_true c48
  have c48b1 : decide (2000 ≤ l0_2.length) = true := decide_eq_true (by omega)
  clear c48
  simp only [Option.some.injEq, Prod.mk.injEq] at H
  obtain ⟨rfl, rfl, rfl, rfl, rfl, rfl, rfl⟩ := H
  have hnb49 := NBz1_z2.out
  have hnc49 := NBz2_z1.out
  have hnb50 := NBz1_z12.out
  have hnc50 := NBz12_z1.out
  obtain ⟨hcz51_0, hcz51_1, hcz51_2, hcz51_3, hcz51_4⟩ := bc5 BKz1
  obtain ⟨hfz51_0, hfz51_1, hfz51_2, hfz51_3, hfz51_4⟩ := bf5 BKz1
  try go_wp2
  have n0_ := am (Kd.R_drew HO_z13002.out)
  have n1_ := am (Kd.R_drew HO_z13003.out)
  have n2_ := am (bkD BKz1.out)
  have n3_ := am (bkD BKz2.out)
  have n4_ := am (bkD BKz12.out)
  have n5_ := am (below_drew1 HB.out)
  clear HO_z13002 HO_z13003 BKz1 BKz2 BKz12 HB; have HO_z13002 := n0_; have HO_z13003 := n1_; have BKz1 := n2_; have BKz2 := n3_; have BKz12 := n4_; have HB := n5_; clear n0_ n1_ n2_ n3_ n4_ n5_
  refine start_ (n := 4) (S := fun w' => w'.cell? ⟨gbz12, 0, none⟩ = some (.string tz3) ∧ w'.cell? ⟨gbz12, 1, none⟩ = some (.int .i64 tz4) ∧ w'.cell? ⟨gbz12, 2, none⟩ = some (.slice Ao14 tz5.length co14) ∧ w'.cell? ⟨gbz12, 3, none⟩ = some (.slice Ao15 tz8.length co15) ∧ w'.cell? ⟨gbz12, 4, none⟩ = some (.bool tz11)) (ds := []) #[false, false, false, false] (by kernel_rfl) rfl rfl (bc5 BKz12) (fun hHeld => ?_)
  generalize wr.drew = w52 at HO_z13002 HO_z13003 BKz1 BKz2 BKz12 HB hHeld ⊢
  refine pn_ 1 (some 4) rfl rfl (.inl ⟨by rfl, by intro w'; go_simp; with_reducible rfl⟩) (by simp only [Act.put, sa_, s0_, s1_, i64_w, i32_w]; rfl) ?_
  refine tn_ 0 (some 49) rfl rfl (.inl ⟨by rfl, by rintro w' ⟨s0, s1, s2, s3, s4⟩; go_simp; with_reducible rfl⟩) hHeld (by simp only [Act.put, sa_, s0_, s1_, i64_w, i32_w]; rfl) ?_
  refine one_ (i := 2) (N := none) #[true, true, true, false] rfl rfl (by kernel_rfl) (by decide) (fun K hK => ?_)
  have hs53 : w52.cell? ⟨gbz2, 0, none⟩ = some (.string xz3000_2) := (blk_cell BKz2.out 0).trans rfl
  have hfs53 := blk_frozen BKz2.out 0
  have := NBz1_z2.out
  have := NBz12_z2.out
  have := NBz2_z1.out
  have := NBz2_z12.out
  have hs54 : w52.cell? ⟨gbz2, 1, none⟩ = some (.int .i64 xz3001_2) := (blk_cell BKz2.out 1).trans rfl
  have hfs54 := blk_frozen BKz2.out 1
  have := NBz1_z2.out
  have := NBz12_z2.out
  have := NBz2_z1.out
  have := NBz2_z12.out
  have hs55 : w52.cell? ⟨gbz2, 2, none⟩ = some (.slice none 0 0) := (blk_cell BKz2.out 2).trans rfl
  have hfs55 := blk_frozen BKz2.out 2
  have := NBz1_z2.out
  have := NBz12_z2.out
  have := NBz2_z1.out
  have := NBz2_z12.out
  have hs56 : w52.cell? ⟨gbz2, 3, none⟩ = some (.slice none 0 0) := (blk_cell BKz2.out 3).trans rfl
  have hfs56 := blk_frozen BKz2.out 3
  have := NBz1_z2.out
  have := NBz12_z2.out
  have := NBz2_z1.out
  have := NBz2_z12.out
  have hs57 : w52.cell? ⟨gbz2, 4, none⟩ = some (.bool xz3004_2) := (blk_cell BKz2.out 4).trans rfl
  have hfs57 := blk_frozen BKz2.out 4
  have := NBz1_z2.out
  have := NBz12_z2.out
  have := NBz2_z1.out
  have := NBz2_z12.out
  refine skip_ (by rfl) rfl (by go_simp; rfl) ?_
  refine hK.out _ _ ⟨((cf5 NBz12_z2).trans (hHeld.1)), ((cf5 NBz12_z2).trans (hHeld.2.1)), ((cf5 NBz12_z2).trans (hHeld.2.2.1)), ((cf5 NBz12_z2).trans (hHeld.2.2.2.1)), ((cf5 NBz12_z2).trans (hHeld.2.2.2.2))⟩ (fun hHeld => ?_)
  clear hK K
  refine pn_ 3 (some 6) rfl rfl (.inl ⟨by rfl, by intro w'; go_simp; with_reducible rfl⟩) (by simp only [Act.put, sa_, s0_, s1_, i64_w, i32_w]; rfl) ?_
  refine done_ (by kernel_rfl) ?_
  try go_wp2
  refine bodyPost_ret (results_list (rs := [.tmp 4, .cell 5 50, .tmp 6]) rfl (by simp) (.tmp (.cell gbz2 50 #[.string tz3, .int .i64 tz4, .slice Ao14 tz5.length co14, .slice Ao15 tz8.length co15, .bool tz11] (0, 0) _ rfl (by (with_reducible repeat (first | refine blk_drewN ?_ _ | refine bkD ?_ | refine bkA ?_ _)); apply bp5; exact pk BKz2) Try.underlying50 rfl (by kernel_rfl) (.tmp .nil)))) rfl ?_
  exact ⟨_, _, by first | rfl | (simp <;> rfl) | (simp [*] <;> rfl), by (with_reducible repeat first | apply ra | apply rn | apply rd); exact Kd.R_mono (rf5 (Kd.R_types HO_z13002.out BKz2.out (by decide)) (fun _ hk => hk.2)) (fun _ hk => trivial), by (with_reducible repeat first | apply ra | apply rn | apply rd); exact Kd.R_mono (rf5 (Kd.R_types HO_z13003.out BKz2.out (by decide)) (fun _ hk => hk.2)) (fun _ hk => trivial), sC_ HB⟩
 rw [if_neg c48] at H
 have c48b0 : decide (2000 ≤ (l0_2.length : Int)) = false := decide_eq_false c48
 have c48b1 : decide (2000 ≤ l0_2.length) = false := decide_eq_false (by omega)
 clear c48
 replace H := ob_ H
 obtain ⟨⟨tz16, tz17, tz18, tz19⟩, A580, H⟩ := H
 replace H : (if tz19 = 0 then (if tz5.length < 4398046511104 then ((some (tz5 ++ [(⟨a1, tz16⟩ : S72)] : List (S72))).bind fun yz21 => ((r8_clash.f k2 tz17 tz18 yz21 tz8 tz11).bind fun tz24 => (some (tz16, tz17, tz18, yz21, tz8, tz24, 0)))) else (none)) else (some ((⟨#[]⟩ : ByteArray), tz3, tz4, tz5, tz8, tz11, tz19))) = some (r1, r2, r3, r4, r5, r6, r7) := H
 have A58 := Aside0.mk A580
 clear A580
 by_cases c59 : tz19 = 0
 rotate_left
 ·rw [if_neg c59] at H
  have c59b0 : (tz19 == 0) = false := beq_eq_false_iff_ne.mpr c59
  have c59b1 : (tz19 != 0) = true := bne_iff_ne.mpr c59
  simp only [Option.some.injEq, Prod.mk.injEq] at H
  obtain ⟨rfl, rfl, rfl, rfl, rfl, rfl, rfl⟩ := H
  have hnb85 := NBz1_z2.out
  have hnc85 := NBz2_z1.out
  have hnb86 := NBz1_z12.out
  have hnc86 := NBz12_z1.out
  obtain ⟨hcz87_0, hcz87_1, hcz87_2, hcz87_3, hcz87_4⟩ := bc5 BKz1
  obtain ⟨hfz87_0, hfz87_1, hfz87_2, hfz87_3, hfz87_4⟩ := bf5 BKz1
  try go_wp2_with (first | ((with_reducible refine gate_callee (f := 22) rfl ?_); refine goesL_ (some 53) rfl rfl Try.func22 (by kernel_rfl) rfl #[.agg #[.string a0_0, .int .i64 a0_1], .int .i64 16] rfl (by (try simp only [List.map_toArray, List.map_cons, List.map_nil]) <;> rfl) ?_; (with_reducible refine (r7_Take.calls k2 a0_0 a0_1 16 tz16 tz17 tz18 tz19 _ A58.out).mono ?_); rintro e w88 ⟨rfl, hb⟩; refine ⟨_, rfl, ?_⟩; have n0_ := am (Kd.R_below (pr HO_z13002) hb); have n1_ := am (Kd.R_below (pr HO_z13003) hb); have n2_ := am (bkB (pk BKz1) hb); have n3_ := am (bkB (pk BKz2) hb); have n4_ := am (bkB (pk BKz12) hb); have n5_ := am (below_step (sC_ HB) hb); clear HO_z13002; clear HO_z13003; clear BKz1; clear BKz2; clear BKz12; clear HB; have HO_z13002 := n0_; have HO_z13003 := n1_; have BKz1 := n2_; have BKz2 := n3_; have BKz12 := n4_; have HB := n5_; clear n0_ n1_ n2_ n3_ n4_ n5_; (try clear hi)) | ((with_reducible refine gate_dst (N := 10) rfl ?_); (try (refine gate_guard (by rfl) ?_; dsimp only)); refine box_event ?hg (N := 10) ?hd (cs := #[.string (⟨#[]⟩ : ByteArray), .int .i64 0]) (t := 23) ?hr ?_; (case hd => rfl); (case hg => rfl); (case hr => first | (go_simp; done) | (go_simp; rfl)); intro gbz20 hg w89 hbox hb; have n0_ := am (Kd.R_below (pr HO_z13002) hb); have n1_ := am (Kd.R_below (pr HO_z13003) hb); have n2_ := am (bkB (pk BKz1) hb); have n3_ := am (bkB (pk BKz2) hb); have n4_ := am (bkB (pk BKz12) hb); have n5_ := am (below_step (sC_ HB) hb); have n6_ := am (hbox); have n7_ := ge_ hg (sC_ HB); have n8_ := ge_ hg (sC_ HB); have n9_ := nl_ hg BKz1; have n10_ := ng_ hg BKz1; have n11_ := nl_ hg BKz2; have n12_ := ng_ hg BKz2; have n13_ := nl_ hg BKz12; have n14_ := ng_ hg BKz12; clear HO_z13002; clear HO_z13003; clear BKz1; clear BKz2; clear BKz12; clear HB; have HO_z13002 := n0_; have HO_z13003 := n1_; have BKz1 := n2_; have BKz2 := n3_; have BKz12 := n4_; have HB := n5_; have BKz20 := n6_; have GWz20 := n7_; have GEz20 := n8_; have NBz1_z20 := n9_; have NBz20_z1 := n10_; have NBz2_z20 := n11_; have NBz20_z2 := n12_; have NBz12_z20 := n13_; have NBz20_z12 := n14_; clear n0_ n1_ n2_ n3_ n4_ n5_ n6_ n7_ n8_ n9_ n10_ n11_ n12_ n13_ n14_; clear hb hbox hg; have hnb90 := NBz20_z1.out; have hnc90 := NBz1_z20.out; have hnb91 := NBz20_z2.out; have hnc91 := NBz2_z20.out; have hnb92 := NBz20_z12.out; have hnc92 := NBz12_z20.out; obtain ⟨hcz93_0, hcz93_1⟩ := bc2 BKz20; obtain ⟨hfz93_0, hfz93_1⟩ := bf2 BKz20))
  have n0_ : Aside0 (Kd.R k72 72 ((w89.setCell ⟨gbz20, 0, none⟩ (.string tz17)).setCell ⟨gbz20, 1, none⟩ (.int .i64 tz18)) w.heap.size (fun _ => True) (.slice Ao14 tz5.length co14) tz5) := ⟨by (with_reducible repeat first | apply ra | apply rn | apply rd); exact Kd.R_mono (rf2 (Kd.R_types HO_z13002.out BKz20.out (by decide)) (fun _ hk => hk.2)) (fun _ hk => trivial)⟩
  have n1_ : Aside0 (Kd.R k74 74 ((w89.setCell ⟨gbz20, 0, none⟩ (.string tz17)).setCell ⟨gbz20, 1, none⟩ (.int .i64 tz18)) w.heap.size (fun _ => True) (.slice Ao15 tz8.length co15) tz8) := ⟨by (with_reducible repeat first | apply ra | apply rn | apply rd); exact Kd.R_mono (rf2 (Kd.R_types HO_z13003.out BKz20.out (by decide)) (fun _ hk => hk.2)) (fun _ hk => trivial)⟩
  have n2_ : Aside0 (((w89.setCell ⟨gbz20, 0, none⟩ (.string tz17)).setCell ⟨gbz20, 1, none⟩ (.int .i64 tz18)).heap[gbz1]? = some (.cells #[.string a0_0, .int .i64 a0_1, .slice A0_2 l0_2.length c0_2, .slice A0_3 l0_3.length c0_3, .bool a0_4] 50 (0, 0))) := ⟨by (with_reducible repeat (first | refine blk_drewN ?_ _ | refine bkD ?_ | refine bkA ?_ _)); refine blk_far ?_ NBz1_z20.out _; refine blk_far ?_ NBz1_z20.out _; (with_reducible repeat (first | refine blk_drewN ?_ _ | refine bkD ?_ | refine bkA ?_ _)); exact BKz1.out⟩
  have n3_ : Aside0 (((w89.setCell ⟨gbz20, 0, none⟩ (.string tz17)).setCell ⟨gbz20, 1, none⟩ (.int .i64 tz18)).heap[gbz2]? = some (.cells #[.string xz3000_2, .int .i64 xz3001_2, .slice none 0 0, .slice none 0 0, .bool xz3004_2] 50 (0, 0))) := ⟨by (with_reducible repeat (first | refine blk_drewN ?_ _ | refine bkD ?_ | refine bkA ?_ _)); refine blk_far ?_ NBz2_z20.out _; refine blk_far ?_ NBz2_z20.out _; (with_reducible repeat (first | refine blk_drewN ?_ _ | refine bkD ?_ | refine bkA ?_ _)); exact BKz2.out⟩
  have n4_ : Aside0 (((w89.setCell ⟨gbz20, 0, none⟩ (.string tz17)).setCell ⟨gbz20, 1, none⟩ (.int .i64 tz18)).heap[gbz12]? = some (.cells #[.string tz3, .int .i64 tz4, .slice Ao14 tz5.length co14, .slice Ao15 tz8.length co15, .bool tz11] 50 (0, 0))) := ⟨by (with_reducible repeat (first | refine blk_drewN ?_ _ | refine bkD ?_ | refine bkA ?_ _)); refine blk_far ?_ NBz12_z20.out _; refine blk_far ?_ NBz12_z20.out _; (with_reducible repeat (first | refine blk_drewN ?_ _ | refine bkD ?_ | refine bkA ?_ _)); exact BKz12.out⟩
  have n5_ : Aside0 (((w89.setCell ⟨gbz20, 0, none⟩ (.string tz17)).setCell ⟨gbz20, 1, none⟩ (.int .i64 tz18)).heap[gbz20]? = some (.cells #[.string tz17, .int .i64 tz18] 23 (0, 0))) := ⟨by (with_reducible repeat (first | refine blk_drewN ?_ _ | refine bkD ?_ | refine bkA ?_ _)); apply bp2; (with_reducible repeat (first | refine blk_drewN ?_ _ | refine bkD ?_ | refine bkA ?_ _)); exact BKz20.out⟩
  have n6_ : Aside0 (Below w.heap.size w ((w89.setCell ⟨gbz20, 0, none⟩ (.string tz17)).setCell ⟨gbz20, 1, none⟩ (.int .i64 tz18))) := (sB_ HB)
  (try clear HO_z13002); (try clear HO_z13003); (try clear BKz1); (try clear BKz2); (try clear BKz12); (try clear BKz20); (try clear HB)
  generalize ((w89.setCell ⟨gbz20, 0, none⟩ (.string tz17)).setCell ⟨gbz20, 1, none⟩ (.int .i64 tz18)) = w94 at n0_ n1_ n2_ n3_ n4_ n5_ n6_ ⊢
  have HO_z13002 := n0_; have HO_z13003 := n1_; have BKz1 := n2_; have BKz2 := n3_; have BKz12 := n4_; have BKz20 := n5_; have HB := n6_; clear n0_ n1_ n2_ n3_ n4_ n5_ n6_
  have n0_ := am (Kd.R_drew HO_z13002.out)
  have n1_ := am (Kd.R_drew HO_z13003.out)
  have n2_ := am (bkD BKz1.out)
  have n3_ := am (bkD BKz2.out)
  have n4_ := am (bkD BKz12.out)
  have n5_ := am (bkD BKz20.out)
  have n6_ := am (below_drew1 HB.out)
  clear HO_z13002 HO_z13003 BKz1 BKz2 BKz12 BKz20 HB; have HO_z13002 := n0_; have HO_z13003 := n1_; have BKz1 := n2_; have BKz2 := n3_; have BKz12 := n4_; have BKz20 := n5_; have HB := n6_; clear n0_ n1_ n2_ n3_ n4_ n5_ n6_
  refine start_ (n := 5) (S := fun w' => w'.cell? ⟨gbz12, 0, none⟩ = some (.string tz3) ∧ w'.cell? ⟨gbz12, 1, none⟩ = some (.int .i64 tz4) ∧ w'.cell? ⟨gbz12, 2, none⟩ = some (.slice Ao14 tz5.length co14) ∧ w'.cell? ⟨gbz12, 3, none⟩ = some (.slice Ao15 tz8.length co15) ∧ w'.cell? ⟨gbz12, 4, none⟩ = some (.bool tz11)) (ds := []) #[false, false, false, false, false] (by kernel_rfl) rfl rfl (bc5 BKz12) (fun hHeld => ?_)
  generalize w94.drew = w95 at HO_z13002 HO_z13003 BKz1 BKz2 BKz12 BKz20 HB hHeld ⊢
  refine pn_ 1 (some 60) rfl rfl (.inl ⟨by rfl, by intro w'; go_simp; with_reducible rfl⟩) (by simp only [Act.put, sa_, s0_, s1_, i64_w, i32_w]; rfl) ?_
  refine pn_ 2 (some 4) rfl rfl (.inl ⟨by rfl, by intro w'; go_simp; with_reducible rfl⟩) (by simp only [Act.put, sa_, s0_, s1_, i64_w, i32_w]; rfl) ?_
  refine tn_ 0 (some 59) rfl rfl (.inl ⟨by rfl, by rintro w' ⟨s0, s1, s2, s3, s4⟩; go_simp; with_reducible rfl⟩) hHeld (by simp only [Act.put, sa_, s0_, s1_, i64_w, i32_w]; rfl) ?_
  refine one_ (i := 3) (N := none) #[true, true, true, true, false] rfl rfl (by kernel_rfl) (by decide) (fun K hK => ?_)
  have hs96 : w95.cell? ⟨gbz2, 0, none⟩ = some (.string xz3000_2) := (blk_cell BKz2.out 0).trans rfl
  have hfs96 := blk_frozen BKz2.out 0
  have := NBz1_z2.out
  have := NBz12_z2.out
  have := NBz20_z2.out
  have := NBz2_z1.out
  have := NBz2_z12.out
  have := NBz2_z20.out
  have hs97 : w95.cell? ⟨gbz2, 1, none⟩ = some (.int .i64 xz3001_2) := (blk_cell BKz2.out 1).trans rfl
  have hfs97 := blk_frozen BKz2.out 1
  have := NBz1_z2.out
  have := NBz12_z2.out
  have := NBz20_z2.out
  have := NBz2_z1.out
  have := NBz2_z12.out
  have := NBz2_z20.out
  have hs98 : w95.cell? ⟨gbz2, 2, none⟩ = some (.slice none 0 0) := (blk_cell BKz2.out 2).trans rfl
  have hfs98 := blk_frozen BKz2.out 2
  have := NBz1_z2.out
  have := NBz12_z2.out
  have := NBz20_z2.out
  have := NBz2_z1.out
  have := NBz2_z12.out
  have := NBz2_z20.out
  have hs99 : w95.cell? ⟨gbz2, 3, none⟩ = some (.slice none 0 0) := (blk_cell BKz2.out 3).trans rfl
  have hfs99 := blk_frozen BKz2.out 3
  have := NBz1_z2.out
  have := NBz12_z2.out
  have := NBz20_z2.out
  have := NBz2_z1.out
  have := NBz2_z12.out
  have := NBz2_z20.out
  have hs100 : w95.cell? ⟨gbz2, 4, none⟩ = some (.bool xz3004_2) := (blk_cell BKz2.out 4).trans rfl
  have hfs100 := blk_frozen BKz2.out 4
  have := NBz1_z2.out
  have := NBz12_z2.out
  have := NBz20_z2.out
  have := NBz2_z1.out
  have := NBz2_z12.out
  have := NBz2_z20.out
  refine skip_ (by rfl) rfl (by go_simp; rfl) ?_
  refine hK.out _ _ ⟨((cf5 NBz12_z2).trans (hHeld.1)), ((cf5 NBz12_z2).trans (hHeld.2.1)), ((cf5 NBz12_z2).trans (hHeld.2.2.1)), ((cf5 NBz12_z2).trans (hHeld.2.2.2.1)), ((cf5 NBz12_z2).trans (hHeld.2.2.2.2))⟩ (fun hHeld => ?_)
  clear hK K
  refine pn_ 4 (some 6) rfl rfl (.inl ⟨by rfl, by intro w'; go_simp; with_reducible rfl⟩) (by simp only [Act.put, sa_, s0_, s1_, i64_w, i32_w]; rfl) ?_
  refine done_ (by kernel_rfl) ?_
  try go_wp2
  refine bodyPost_ret (results_list (rs := [.tmp 4, .cell 5 50, .tmp 6]) rfl (by simp) (.tmp (.cell gbz2 50 #[.string tz3, .int .i64 tz4, .slice Ao14 tz5.length co14, .slice Ao15 tz8.length co15, .bool tz11] (0, 0) _ rfl (by (with_reducible repeat (first | refine blk_drewN ?_ _ | refine bkD ?_ | refine bkA ?_ _)); apply bp5; exact pk BKz2) Try.underlying50 rfl (by kernel_rfl) (.tmp .nil)))) rfl ?_
  exact ⟨_, _, by first | rfl | (simp <;> rfl) | (simp [*] <;> rfl), by (with_reducible repeat first | apply ra | apply rn | apply rd); exact Kd.R_mono (rf5 (Kd.R_types HO_z13002.out BKz2.out (by decide)) (fun _ hk => hk.2)) (fun _ hk => trivial), by (with_reducible repeat first | apply ra | apply rn | apply rd); exact Kd.R_mono (rf5 (Kd.R_types HO_z13003.out BKz2.out (by decide)) (fun _ hk => hk.2)) (fun _ hk => trivial), sC_ HB⟩
 rw [if_pos c59] at H
 have c59b0 : (tz19 == 0) = true := beq_iff_eq.mpr c59
 have c59b1 : (tz19 != 0) = false := bne_eq_false_iff_eq.mpr c59
 clear c59
 by_cases c60 : tz5.length < 4398046511104
 rotate_left
 ·rw [if_neg c60] at H
  exact absurd H (by simp)
 rw [if_pos c60] at H
 have LMc60 := Aside0.mk c60
 clear c60
 obtain ⟨yz21, hyz21⟩ : ∃ y_ : List (S72), y_ = (tz5 ++ [(⟨a1, tz16⟩ : S72)]) := ⟨_, rfl⟩
 replace H : ((r8_clash.f k2 tz17 tz18 yz21 tz8 tz11).bind fun tz24 => (some (tz16, tz17, tz18, yz21, tz8, tz24, 0))) = some (r1, r2, r3, r4, r5, r6, r7) := by first | (rw [hyz21]; with_reducible exact H) | (have H2_ := (Option.bind_some _ _).symm.trans H; rw [hyz21]; with_reducible exact H2_) | (have H2_ := (Option.bind_some _ _).symm.trans H; with_reducible exact H2_) | with_reducible exact H | (rw [hyz21]; exact H) | exact H
 have Nyz21 := am hyz21
 clear hyz21
 replace H := ob_ H
 obtain ⟨tz24, A610, H⟩ := H
 replace H : (some (tz16, tz17, tz18, yz21, tz8, tz24, 0)) = some (r1, r2, r3, r4, r5, r6, r7) := H
 have A61 := Aside0.mk A610
 clear A610
 simp only [Option.some.injEq, Prod.mk.injEq] at H
 obtain ⟨rfl, rfl, rfl, rfl, rfl, rfl, rfl⟩ := H
 have hnb62 := NBz1_z2.out
 have hnc62 := NBz2_z1.out
 have hnb63 := NBz1_z12.out
 have hnc63 := NBz12_z1.out
 obtain ⟨hcz64_0, hcz64_1, hcz64_2, hcz64_3, hcz64_4⟩ := bc5 BKz1
 obtain ⟨hfz64_0, hfz64_1, hfz64_2, hfz64_3, hfz64_4⟩ := bf5 BKz1
 try go_wp2_with (first | ((with_reducible refine gate_callee (f := 22) rfl ?_); refine goesL_ (some 53) rfl rfl Try.func22 (by kernel_rfl) rfl #[.agg #[.string a0_0, .int .i64 a0_1], .int .i64 16] rfl (by (try simp only [List.map_toArray, List.map_cons, List.map_nil]) <;> rfl) ?_; (with_reducible refine (r7_Take.calls k2 a0_0 a0_1 16 tz16 tz17 tz18 tz19 _ A58.out).mono ?_); rintro e w65 ⟨rfl, hb⟩; refine ⟨_, rfl, ?_⟩; have n0_ := am (Kd.R_below (pr HO_z13002) hb); have n1_ := am (Kd.R_below (pr HO_z13003) hb); have n2_ := am (bkB (pk BKz1) hb); have n3_ := am (bkB (pk BKz2) hb); have n4_ := am (bkB (pk BKz12) hb); have n5_ := am (below_step (sC_ HB) hb); clear HO_z13002; clear HO_z13003; clear BKz1; clear BKz2; clear BKz12; clear HB; have HO_z13002 := n0_; have HO_z13003 := n1_; have BKz1 := n2_; have BKz2 := n3_; have BKz12 := n4_; have HB := n5_; clear n0_ n1_ n2_ n3_ n4_ n5_; (try clear hi)) | ((with_reducible refine gate_dst (N := 10) rfl ?_); (try (refine gate_guard (by rfl) ?_; dsimp only)); refine box_event ?hg (N := 10) ?hd (cs := #[.string (⟨#[]⟩ : ByteArray), .int .i64 0]) (t := 23) ?hr ?_; (case hd => rfl); (case hg => rfl); (case hr => first | (go_simp; done) | (go_simp; rfl)); intro gbz20 hg w66 hbox hb; have n0_ := am (Kd.R_below (pr HO_z13002) hb); have n1_ := am (Kd.R_below (pr HO_z13003) hb); have n2_ := am (bkB (pk BKz1) hb); have n3_ := am (bkB (pk BKz2) hb); have n4_ := am (bkB (pk BKz12) hb); have n5_ := am (below_step (sC_ HB) hb); have n6_ := am (hbox); have n7_ := ge_ hg (sC_ HB); have n8_ := ge_ hg (sC_ HB); have n9_ := nl_ hg BKz1; have n10_ := ng_ hg BKz1; have n11_ := nl_ hg BKz2; have n12_ := ng_ hg BKz2; have n13_ := nl_ hg BKz12; have n14_ := ng_ hg BKz12; clear HO_z13002; clear HO_z13003; clear BKz1; clear BKz2; clear BKz12; clear HB; have HO_z13002 := n0_; have HO_z13003 := n1_; have BKz1 := n2_; have BKz2 := n3_; have BKz12 := n4_; have HB := n5_; have BKz20 := n6_; have GWz20 := n7_; have GEz20 := n8_; have NBz1_z20 := n9_; have NBz20_z1 := n10_; have NBz2_z20 := n11_; have NBz20_z2 := n12_; have NBz12_z20 := n13_; have NBz20_z12 := n14_; clear n0_ n1_ n2_ n3_ n4_ n5_ n6_ n7_ n8_ n9_ n10_ n11_ n12_ n13_ n14_; clear hb hbox hg; have hnb67 := NBz20_z1.out; have hnc67 := NBz1_z20.out; have hnb68 := NBz20_z2.out; have hnc68 := NBz2_z20.out; have hnb69 := NBz20_z12.out; have hnc69 := NBz12_z20.out; obtain ⟨hcz70_0, hcz70_1⟩ := bc2 BKz20; obtain ⟨hfz70_0, hfz70_1⟩ := bf2 BKz20; have hnb71 := NBz12_z2.out; have hnc71 := NBz2_z12.out; obtain ⟨hcz72_0, hcz72_1, hcz72_2, hcz72_3, hcz72_4⟩ := bc5 BKz12; obtain ⟨hfz72_0, hfz72_1, hfz72_2, hfz72_3, hfz72_4⟩ := bf5 BKz12) | ((with_reducible refine gate_builtin (b := .append) (xs := #[.tmp 64, .tmp 68]) rfl ?_); (try (refine gate_guard (by rfl) ?_; dsimp only)); at_builtin; refine Kd.R_append k72 (w0 := w) w.heap.size rfl (.tmp 64) (.tmp 68) 47 72 (.agg #[(.string ⟨#[]⟩), (.string ⟨#[]⟩)]) 32 rfl Try.underlying47 info72 rfl (by decide) (by omega) (.slice Ao14 tz5.length co14) tz5 (⟨a1, tz16⟩ : S72) [.string a1, .string tz16] (fun _ => True) (fun _ => False) rfl (by first | (go_simp; done) | (go_simp; rfl)) ?aP (fun _ hk => hk.elim) ?aF ?aO ?aB ?aS ?aL ?_; (case aP => exact k72_mkM _ _ _ (⟨a1, tz16⟩ : S72)); (case aB => exact (sC_ HB)); (case aF => exact (fun _ _ => trivial)); (case aO => exact (by (with_reducible repeat first | apply ra | apply rn | apply rd); exact Kd.R_mono (rf2 (rf2 (Kd.R_types (Kd.R_types HO_z13002.out BKz20.out (by decide)) BKz12.out (by decide)) (fun _ hk => hk.1.2)) (fun _ hk => hk.2)) (fun _ hk => trivial))); (case aS => exact (below_size (sC_ HB))); (case aL => have := LMc60.out; omega); intro vz22 w73 ho hb hg hat; rw [← Nyz21.out] at ho; have n0_ := am (Kd.R_over' (by (with_reducible repeat first | apply ra | apply rn | apply rd); exact (Kd.R_mono (Kd.R_mono (rf2 (rf2 (Kd.R_types (Kd.R_types HO_z13003.out BKz20.out (by decide)) BKz12.out (by decide)) (fun _ hk => hk.1.2)) (fun _ hk => hk.2)) (fun _ h_ => h_.1)) (fun _ h_ => h_.1))) (Kd.R_typed (by (with_reducible repeat first | apply ra | apply rn | apply rd); exact (Kd.R_mono (Kd.R_mono (rf2 (rf2 (Kd.R_types (Kd.R_types HO_z13002.out BKz20.out (by decide)) BKz12.out (by decide)) (fun _ hk => hk.1.2)) (fun _ hk => hk.2)) (fun _ h_ => h_.1)) (fun _ h_ => h_.1)))) (by decide) hg); have n1_ := am (blk_grown (g := gbz1) (o := .cells #[.string a0_0, .int .i64 a0_1, .slice A0_2 l0_2.length c0_2, .slice A0_3 l0_3.length c0_3, .bool a0_4] 50 (0, 0)) (by (with_reducible repeat (first | refine blk_drewN ?_ _ | refine bkD ?_ | refine bkA ?_ _)); refine blk_far ?_ NBz1_z12.out _; refine blk_far ?_ NBz1_z12.out _; refine blk_far ?_ NBz1_z20.out _; refine blk_far ?_ NBz1_z20.out _; exact pk BKz1) hg (Kd.R_ne HO_z13002.out BKz1.out (by decide))); have n2_ := am (blk_grown (g := gbz2) (o := .cells #[.string xz3000_2, .int .i64 xz3001_2, .slice none 0 0, .slice none 0 0, .bool xz3004_2] 50 (0, 0)) (by (with_reducible repeat (first | refine blk_drewN ?_ _ | refine bkD ?_ | refine bkA ?_ _)); refine blk_far ?_ NBz2_z12.out _; refine blk_far ?_ NBz2_z12.out _; refine blk_far ?_ NBz2_z20.out _; refine blk_far ?_ NBz2_z20.out _; exact pk BKz2) hg (Kd.R_ne HO_z13002.out BKz2.out (by decide))); have n3_ := am (blk_grown (g := gbz12) (o := .cells #[.string tz17, .int .i64 tz18, .slice Ao14 tz5.length co14, .slice Ao15 tz8.length co15, .bool tz11] 50 (0, 0)) (by (with_reducible repeat (first | refine blk_drewN ?_ _ | refine bkD ?_ | refine bkA ?_ _)); refine blk_put (cs := #[.string tz17, .int .i64 tz4, .slice Ao14 tz5.length co14, .slice Ao15 tz8.length co15, .bool tz11]) ?_ 1 _ rfl; refine blk_put (cs := #[.string tz3, .int .i64 tz4, .slice Ao14 tz5.length co14, .slice Ao15 tz8.length co15, .bool tz11]) ?_ 0 _ rfl; refine blk_far ?_ NBz12_z20.out _; refine blk_far ?_ NBz12_z20.out _; exact pk BKz12) hg (Kd.R_ne HO_z13002.out BKz12.out (by decide))); have n4_ := am (blk_grown (g := gbz20) (o := .cells #[.string tz17, .int .i64 tz18] 23 (0, 0)) (by (with_reducible repeat (first | refine blk_drewN ?_ _ | refine bkD ?_ | refine bkA ?_ _)); refine blk_far ?_ NBz20_z12.out _; refine blk_far ?_ NBz20_z12.out _; apply bp2; exact pk BKz20) hg (Kd.R_ne HO_z13002.out BKz20.out (by decide))); have n5_ := am (hb); have n6_ := am (ho); clear HO_z13003; clear BKz1; clear BKz2; clear BKz12; clear BKz20; clear HB; clear HO_z13002; have HO_z13003 := n0_; have BKz1 := n1_; have BKz2 := n2_; have BKz12 := n3_; have BKz20 := n4_; have HB := n5_; have HOz23 := n6_; clear n0_ n1_ n2_ n3_ n4_ n5_ n6_; clear ho hb hg hat; obtain ⟨Ao74, co74, eo74⟩ := Kd.R_slice HOz23.out; subst eo74; obtain ⟨hcz75_0, hcz75_1, hcz75_2, hcz75_3, hcz75_4⟩ := bc5 BKz12; obtain ⟨hfz75_0, hfz75_1, hfz75_2, hfz75_3, hfz75_4⟩ := bf5 BKz12) | ((with_reducible refine gate_callee (f := 54) rfl ?_); refine goesL_ (some 72) rfl rfl Try.func54 (by kernel_rfl) rfl #[.agg #[.string tz17, .int .i64 tz18, .slice Ao74 yz21.length co74, .slice Ao15 tz8.length co15, .bool tz11]] rfl (by (try simp only [List.map_toArray, List.map_cons, List.map_nil]) <;> rfl) ?_; (with_reducible refine (r8_clash.calls k2 tz17 tz18 _ _ yz21 _ _ tz8 tz11 tz24 _ ?side1 ?side2 ?side3 ?side4 A61.out).mono ?_); (case side1 => refine (Kd.R_reads' (e := 72) (base := w.heap.size) (ok := fun k_ => True) (n := yz21.length) (c := co74) ?_).2.2; exact (by (with_reducible repeat first | apply ra | apply rn | apply rd); exact (Kd.R_mono (Kd.R_far (p := ⟨gbz12, 2, none⟩) (Kd.R_types HOz23.out BKz12.out (by decide)) (fun _ hk => hk.2) (.slice Ao74 yz21.length co74)) (fun _ h_ => h_.1)))); (case side2 => exact (Kd.R_reads' HOz23.out).2.1); (case side3 => refine (Kd.R_reads' (e := 74) (base := w.heap.size) (ok := fun k_ => True) (n := tz8.length) (c := co15) ?_).2.2; exact (by (with_reducible repeat first | apply ra | apply rn | apply rd); exact (Kd.R_mono (Kd.R_far (p := ⟨gbz12, 2, none⟩) (Kd.R_types HO_z13003.out BKz12.out (by decide)) (fun _ hk => hk.2) (.slice Ao74 yz21.length co74)) (fun _ h_ => h_.1)))); (case side4 => exact (Kd.R_reads' HO_z13003.out).2.1); rintro e w76 ⟨rfl, hb⟩; refine ⟨_, rfl, ?_⟩; have n0_ := am (Kd.R_below (by (with_reducible repeat first | apply ra | apply rn | apply rd); exact (Kd.R_mono (Kd.R_far (p := ⟨gbz12, 2, none⟩) (Kd.R_types HO_z13003.out BKz12.out (by decide)) (fun _ hk => hk.2) (.slice Ao74 yz21.length co74)) (fun _ h_ => h_.1))) hb); have n1_ := am (Kd.R_below (by (with_reducible repeat first | apply ra | apply rn | apply rd); exact (Kd.R_mono (Kd.R_far (p := ⟨gbz12, 2, none⟩) (Kd.R_types HOz23.out BKz12.out (by decide)) (fun _ hk => hk.2) (.slice Ao74 yz21.length co74)) (fun _ h_ => h_.1))) hb); have n2_ := am (bkB (g := gbz1) (o := .cells #[.string a0_0, .int .i64 a0_1, .slice A0_2 l0_2.length c0_2, .slice A0_3 l0_3.length c0_3, .bool a0_4] 50 (0, 0)) (by (with_reducible repeat (first | refine blk_drewN ?_ _ | refine bkD ?_ | refine bkA ?_ _)); refine blk_far ?_ NBz1_z12.out _; exact pk BKz1) hb); have n3_ := am (bkB (g := gbz2) (o := .cells #[.string xz3000_2, .int .i64 xz3001_2, .slice none 0 0, .slice none 0 0, .bool xz3004_2] 50 (0, 0)) (by (with_reducible repeat (first | refine blk_drewN ?_ _ | refine bkD ?_ | refine bkA ?_ _)); refine blk_far ?_ NBz2_z12.out _; exact pk BKz2) hb); have n4_ := am (bkB (g := gbz12) (o := .cells #[.string tz17, .int .i64 tz18, .slice Ao74 yz21.length co74, .slice Ao15 tz8.length co15, .bool tz11] 50 (0, 0)) (by (with_reducible repeat (first | refine blk_drewN ?_ _ | refine bkD ?_ | refine bkA ?_ _)); refine blk_put (cs := #[.string tz17, .int .i64 tz18, .slice Ao14 tz5.length co14, .slice Ao15 tz8.length co15, .bool tz11]) ?_ 2 _ rfl; exact pk BKz12) hb); have n5_ := am (bkB (g := gbz20) (o := .cells #[.string tz17, .int .i64 tz18] 23 (0, 0)) (by (with_reducible repeat (first | refine blk_drewN ?_ _ | refine bkD ?_ | refine bkA ?_ _)); refine blk_far ?_ NBz20_z12.out _; exact pk BKz20) hb); have n6_ := am (below_step (sC_ HB) hb); clear HO_z13003; clear HOz23; clear BKz1; clear BKz2; clear BKz12; clear BKz20; clear HB; have HO_z13003 := n0_; have HOz23 := n1_; have BKz1 := n2_; have BKz2 := n3_; have BKz12 := n4_; have BKz20 := n5_; have HB := n6_; clear n0_ n1_ n2_ n3_ n4_ n5_ n6_; obtain ⟨hcz77_0, hcz77_1, hcz77_2, hcz77_3, hcz77_4⟩ := bc5 BKz12; obtain ⟨hfz77_0, hfz77_1, hfz77_2, hfz77_3, hfz77_4⟩ := bf5 BKz12))
 have n0_ : Aside0 (Kd.R k74 74 (w76.setCell ⟨gbz12, 4, none⟩ (.bool tz24)) w.heap.size (fun _ => True) (.slice Ao15 tz8.length co15) tz8) := ⟨by (with_reducible repeat first | apply ra | apply rn | apply rd); exact Kd.R_mono (Kd.R_far (p := ⟨gbz12, 4, none⟩) (Kd.R_types HO_z13003.out BKz12.out (by decide)) (fun _ hk => hk.2) (.bool tz24)) (fun _ hk => trivial)⟩
 have n1_ : Aside0 (Kd.R k72 72 (w76.setCell ⟨gbz12, 4, none⟩ (.bool tz24)) w.heap.size (fun _ => True) (.slice Ao74 yz21.length co74) yz21) := ⟨by (with_reducible repeat first | apply ra | apply rn | apply rd); exact Kd.R_mono (Kd.R_far (p := ⟨gbz12, 4, none⟩) (Kd.R_types HOz23.out BKz12.out (by decide)) (fun _ hk => hk.2) (.bool tz24)) (fun _ hk => trivial)⟩
 have n2_ : Aside0 ((w76.setCell ⟨gbz12, 4, none⟩ (.bool tz24)).heap[gbz1]? = some (.cells #[.string a0_0, .int .i64 a0_1, .slice A0_2 l0_2.length c0_2, .slice A0_3 l0_3.length c0_3, .bool a0_4] 50 (0, 0))) := ⟨by (with_reducible repeat (first | refine blk_drewN ?_ _ | refine bkD ?_ | refine bkA ?_ _)); refine blk_far ?_ NBz1_z12.out _; (with_reducible repeat (first | refine blk_drewN ?_ _ | refine bkD ?_ | refine bkA ?_ _)); exact BKz1.out⟩
 have n3_ : Aside0 ((w76.setCell ⟨gbz12, 4, none⟩ (.bool tz24)).heap[gbz2]? = some (.cells #[.string xz3000_2, .int .i64 xz3001_2, .slice none 0 0, .slice none 0 0, .bool xz3004_2] 50 (0, 0))) := ⟨by (with_reducible repeat (first | refine blk_drewN ?_ _ | refine bkD ?_ | refine bkA ?_ _)); refine blk_far ?_ NBz2_z12.out _; (with_reducible repeat (first | refine blk_drewN ?_ _ | refine bkD ?_ | refine bkA ?_ _)); exact BKz2.out⟩
 have n4_ : Aside0 ((w76.setCell ⟨gbz12, 4, none⟩ (.bool tz24)).heap[gbz12]? = some (.cells #[.string tz17, .int .i64 tz18, .slice Ao74 yz21.length co74, .slice Ao15 tz8.length co15, .bool tz24] 50 (0, 0))) := ⟨by (with_reducible repeat (first | refine blk_drewN ?_ _ | refine bkD ?_ | refine bkA ?_ _)); refine blk_put (cs := #[.string tz17, .int .i64 tz18, .slice Ao74 yz21.length co74, .slice Ao15 tz8.length co15, .bool tz11]) ?_ 4 _ rfl; (with_reducible repeat (first | refine blk_drewN ?_ _ | refine bkD ?_ | refine bkA ?_ _)); exact BKz12.out⟩
 have n5_ : Aside0 ((w76.setCell ⟨gbz12, 4, none⟩ (.bool tz24)).heap[gbz20]? = some (.cells #[.string tz17, .int .i64 tz18] 23 (0, 0))) := ⟨by (with_reducible repeat (first | refine blk_drewN ?_ _ | refine bkD ?_ | refine bkA ?_ _)); refine blk_far ?_ NBz20_z12.out _; (with_reducible repeat (first | refine blk_drewN ?_ _ | refine bkD ?_ | refine bkA ?_ _)); exact BKz20.out⟩
 have n6_ : Aside0 (Below w.heap.size w (w76.setCell ⟨gbz12, 4, none⟩ (.bool tz24))) := (sB_ HB)
 (try clear HO_z13003); (try clear HOz23); (try clear BKz1); (try clear BKz2); (try clear BKz12); (try clear BKz20); (try clear HB)
 generalize (w76.setCell ⟨gbz12, 4, none⟩ (.bool tz24)) = w78 at n0_ n1_ n2_ n3_ n4_ n5_ n6_ ⊢
 have HO_z13003 := n0_; have HOz23 := n1_; have BKz1 := n2_; have BKz2 := n3_; have BKz12 := n4_; have BKz20 := n5_; have HB := n6_; clear n0_ n1_ n2_ n3_ n4_ n5_ n6_
 have n0_ := am (Kd.R_drew HO_z13003.out)
 have n1_ := am (Kd.R_drew HOz23.out)
 have n2_ := am (bkD BKz1.out)
 have n3_ := am (bkD BKz2.out)
 have n4_ := am (bkD BKz12.out)
 have n5_ := am (bkD BKz20.out)
 have n6_ := am (below_drew1 HB.out)
 clear HO_z13003 HOz23 BKz1 BKz2 BKz12 BKz20 HB; have HO_z13003 := n0_; have HOz23 := n1_; have BKz1 := n2_; have BKz2 := n3_; have BKz12 := n4_; have BKz20 := n5_; have HB := n6_; clear n0_ n1_ n2_ n3_ n4_ n5_ n6_
 refine start_ (n := 5) (S := fun w' => w'.cell? ⟨gbz12, 0, none⟩ = some (.string tz17) ∧ w'.cell? ⟨gbz12, 1, none⟩ = some (.int .i64 tz18) ∧ w'.cell? ⟨gbz12, 2, none⟩ = some (.slice Ao74 yz21.length co74) ∧ w'.cell? ⟨gbz12, 3, none⟩ = some (.slice Ao15 tz8.length co15) ∧ w'.cell? ⟨gbz12, 4, none⟩ = some (.bool tz24)) (ds := []) #[false, false, false, false, false] (by kernel_rfl) rfl rfl (bc5 BKz12) (fun hHeld => ?_)
 generalize w78.drew = w79 at HO_z13003 HOz23 BKz1 BKz2 BKz12 BKz20 HB hHeld ⊢
 refine pn_ 0 (some 74) rfl rfl (.inl ⟨by rfl, by intro w'; go_simp; with_reducible rfl⟩) (by simp only [Act.put, sa_, s0_, s1_, i64_w, i32_w]; rfl) ?_
 refine pn_ 2 (some 4) rfl rfl (.inl ⟨by rfl, by intro w'; go_simp; with_reducible rfl⟩) (by simp only [Act.put, sa_, s0_, s1_, i64_w, i32_w]; rfl) ?_
 refine tn_ 1 (some 75) rfl rfl (.inl ⟨by rfl, by rintro w' ⟨s0, s1, s2, s3, s4⟩; go_simp; with_reducible rfl⟩) hHeld (by simp only [Act.put, sa_, s0_, s1_, i64_w, i32_w]; rfl) ?_
 refine one_ (i := 3) (N := none) #[true, true, true, true, false] rfl rfl (by kernel_rfl) (by decide) (fun K hK => ?_)
 have hs80 : w79.cell? ⟨gbz2, 0, none⟩ = some (.string xz3000_2) := (blk_cell BKz2.out 0).trans rfl
 have hfs80 := blk_frozen BKz2.out 0
 have := NBz1_z2.out
 have := NBz12_z2.out
 have := NBz20_z2.out
 have := NBz2_z1.out
 have := NBz2_z12.out
 have := NBz2_z20.out
 have hs81 : w79.cell? ⟨gbz2, 1, none⟩ = some (.int .i64 xz3001_2) := (blk_cell BKz2.out 1).trans rfl
 have hfs81 := blk_frozen BKz2.out 1
 have := NBz1_z2.out
 have := NBz12_z2.out
 have := NBz20_z2.out
 have := NBz2_z1.out
 have := NBz2_z12.out
 have := NBz2_z20.out
 have hs82 : w79.cell? ⟨gbz2, 2, none⟩ = some (.slice none 0 0) := (blk_cell BKz2.out 2).trans rfl
 have hfs82 := blk_frozen BKz2.out 2
 have := NBz1_z2.out
 have := NBz12_z2.out
 have := NBz20_z2.out
 have := NBz2_z1.out
 have := NBz2_z12.out
 have := NBz2_z20.out
 have hs83 : w79.cell? ⟨gbz2, 3, none⟩ = some (.slice none 0 0) := (blk_cell BKz2.out 3).trans rfl
 have hfs83 := blk_frozen BKz2.out 3
 have := NBz1_z2.out
 have := NBz12_z2.out
 have := NBz20_z2.out
 have := NBz2_z1.out
 have := NBz2_z12.out
 have := NBz2_z20.out
 have hs84 : w79.cell? ⟨gbz2, 4, none⟩ = some (.bool xz3004_2) := (blk_cell BKz2.out 4).trans rfl
 have hfs84 := blk_frozen BKz2.out 4
 have := NBz1_z2.out
 have := NBz12_z2.out
 have := NBz20_z2.out
 have := NBz2_z1.out
 have := NBz2_z12.out
 have := NBz2_z20.out
 refine skip_ (by rfl) rfl (by go_simp; rfl) ?_
 refine hK.out _ _ ⟨((cf5 NBz12_z2).trans (hHeld.1)), ((cf5 NBz12_z2).trans (hHeld.2.1)), ((cf5 NBz12_z2).trans (hHeld.2.2.1)), ((cf5 NBz12_z2).trans (hHeld.2.2.2.1)), ((cf5 NBz12_z2).trans (hHeld.2.2.2.2))⟩ (fun hHeld => ?_)
 clear hK K
 refine pn_ 4 (some 6) rfl rfl (.inl ⟨by rfl, by intro w'; go_simp; with_reducible rfl⟩) (by simp only [Act.put, sa_, s0_, s1_, i64_w, i32_w]; rfl) ?_
 refine done_ (by kernel_rfl) ?_
 try go_wp2
 refine bodyPost_ret (results_list (rs := [.tmp 4, .cell 5 50, .tmp 6]) rfl (by simp) (.tmp (.cell gbz2 50 #[.string tz17, .int .i64 tz18, .slice Ao74 yz21.length co74, .slice Ao15 tz8.length co15, .bool tz24] (0, 0) _ rfl (by (with_reducible repeat (first | refine blk_drewN ?_ _ | refine bkD ?_ | refine bkA ?_ _)); apply bp5; exact pk BKz2) Try.underlying50 rfl (by kernel_rfl) (.tmp .nil)))) rfl ?_
 exact ⟨_, _, by first | rfl | (simp <;> rfl) | (simp [*] <;> rfl), by (with_reducible repeat first | apply ra | apply rn | apply rd); exact Kd.R_mono (rf5 (Kd.R_types HOz23.out BKz2.out (by decide)) (fun _ hk => hk.2)) (fun _ hk => trivial), by (with_reducible repeat first | apply ra | apply rn | apply rd); exact Kd.R_mono (rf5 (Kd.R_types HO_z13003.out BKz2.out (by decide)) (fun _ hk => hk.2)) (fun _ hk => trivial), sC_ HB⟩
end Go.Proofs.Ytmkncddbecmlpaa.Pr
end
