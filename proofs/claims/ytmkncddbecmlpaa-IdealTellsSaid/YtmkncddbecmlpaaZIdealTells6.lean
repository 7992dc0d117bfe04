/-
  A part of what the row IdealTells reaches, laid together by a program of this session (wip/tools/shake.py) out of this seat's texts. No condition but the ones that each lemma names.
-/
import Derived.OpenShut
import Derived.ProofKit
import Derived.DataElems
import Derived.Deep.Quiet
import Derived.StillTail
import Derived.Deep.QuietTactic
import Derived.Below
import Derived.OrdersIn
import Derived.TacticsIn
import Derived.OwnWalkIn
import Derived.RangeFuncCalls
import Derived.KernelRfl
import Derived.WalkKit
import Derived.Lib.Hide
import Derived.Test.YtmkncddbecmlpaaZIdealTells1
import Derived.Test.YtmkncddbecmlpaaZIdealTells3
import Derived.Test.YtmkncddbecmlpaaZIdealTells5
set_option linter.unusedVariables false
set_option linter.unusedSimpArgs false
section
namespace Go.Proofs.Ytmkncddbecmlpaa.Pr
open Go.Proofs.Ytmkncddbecmlpaa.Sq Go.RowKit Go.Proofs.YtmkncddbecmlpaaW.PrintWords Go.Proofs.YtmkncddbecmlpaaW.PrintLast Go.Proofs.YtmkncddbecmlpaaW.PrintMore
attribute [local go_sem] max2_int min2_int max_two min_two max_three min_three max_four min_four
set_option linter.unusedVariables false
set_option linter.unusedSimpArgs false
mutual
def r8_Seal.j0 : Nat → ByteArray → ByteArray → Bool → ByteArray → Int → List (S72) → List (S74) → Bool → ByteArray → Int → List (S72) → List (S74) → Bool → Option (ByteArray × ByteArray × Int × (List (S72)) × (List (S74)) × Bool × Int)
 | 0, _, _, _, _, _, _, _, _, _, _, _, _, _ => none
 | k + 1, x1, x2, x28, xz2000, xz2001, xz2002, xz2003, xz2004, xz13000, xz13001, xz13002, xz13003, xz13004 => if x28 = true then (some ((⟨#[]⟩ : ByteArray), xz13000, xz13001, xz13002, xz13003, xz13004, 1)) else (r8_Seal.l0 k x1 x2 0 xz2000 xz2001 xz2002 xz2003 xz2004 xz13000 xz13001 xz13002 xz13003 xz13004)
def r8_Seal.l0 : Nat → ByteArray → ByteArray → Int → ByteArray → Int → List (S72) → List (S74) → Bool → ByteArray → Int → List (S72) → List (S74) → Bool → Option (ByteArray × ByteArray × Int × (List (S72)) × (List (S74)) × Bool × Int)
 | 0, _, _, _, _, _, _, _, _, _, _, _, _, _ => none
 | k + 1, x1, x2, x10, xz2000, xz2001, xz2002, xz2003, xz2004, xz13000, xz13001, xz13002, xz13003, xz13004 => if x10 < (xz2003.length : Int) then (if 0 ≤ x10 then (if ((rd_T74 xz2003 x10).f0).toList = x1.toList then (if ((rd_T74 xz2003 x10).f1).toList = x2.toList then (some ((rd_T74 xz2003 x10).f2, xz13000, xz13001, xz13002, xz13003, xz13004, 0)) else (r8_Seal.l0 k x1 x2 (wrap64 (x10 + 1)) xz2000 xz2001 xz2002 xz2003 xz2004 xz13000 xz13001 xz13002 xz13003 xz13004)) else (r8_Seal.l0 k x1 x2 (wrap64 (x10 + 1)) xz2000 xz2001 xz2002 xz2003 xz2004 xz13000 xz13001 xz13002 xz13003 xz13004)) else (none)) else (if (xz2003.length : Int) ≥ 2000 then (some ((⟨#[]⟩ : ByteArray), xz13000, xz13001, xz13002, xz13003, xz13004, 2)) else ((r7_Take.f k xz2000 xz2001 40).bind fun btz17 => (if btz17.2.2.2 = 0 then (if xz13003.length < 2932031007402 then ((some (xz13003 ++ [(⟨x1, x2, btz17.1⟩ : S74)] : List (S74))).bind fun yz22 => ((r8_clash.f k btz17.2.1 btz17.2.2.1 xz13002 yz22 xz13004).bind fun tz25 => (some (btz17.1, btz17.2.1, btz17.2.2.1, xz13002, yz22, tz25, 0)))) else (none)) else (some ((⟨#[]⟩ : ByteArray), xz13000, xz13001, xz13002, xz13003, xz13004, btz17.2.2.2)))))
end
def r8_Seal.f (k : Nat) (a0_0 : ByteArray) (a0_1 : Int) (l0_2 : List (S72)) (l0_3 : List (S74)) (a0_4 : Bool) (a1 : ByteArray) (a2 : ByteArray) : Option (ByteArray × ByteArray × Int × (List (S72)) × (List (S74)) × Bool × Int) := (r8_Own.f a0_0 a0_1 l0_2 l0_3 a0_4).bind fun btz3 => ((r8_Right.f k a0_0 a0_1 l0_2 l0_3 a0_4).bind fun tz13 => (if tz13 = true then (if (a1.size : Int) = 16 then (r8_Seal.j0 k a1 a2 ((a2.size : Int) != 24) a0_0 a0_1 l0_2 l0_3 a0_4 btz3.1 btz3.2.1 btz3.2.2.1 btz3.2.2.2.1 btz3.2.2.2.2) else (r8_Seal.j0 k a1 a2 true a0_0 a0_1 l0_2 l0_3 a0_4 btz3.1 btz3.2.1 btz3.2.2.1 btz3.2.2.2.1 btz3.2.2.2.2)) else (r8_Seal.j0 k a1 a2 true a0_0 a0_1 l0_2 l0_3 a0_4 btz3.1 btz3.2.1 btz3.2.2.1 btz3.2.2.2.1 btz3.2.2.2.2)))
def r8_Seal.T8 : Bool × List (List Nat × List Nat) := (true, [([], []), ([0], [0]), ([], []), ([1, 2], [1, 2]), ([3], [3]), ([4], [4]), ([], []), ([5, 0, 1, 2, 3, 4, 5], [5]), ([6, 7, 0, 1, 2, 3, 4, 5, 6, 7], [6]), ([8, 0, 1, 2, 3, 4, 5, 6, 7, 8], [])])
def r8_Seal.B8 : List Nat := [0, 1, 0, 7, 15, 31, 0, 63, 255, 511]
theorem r8_Seal.tab8 : rtab .any (opsOf Try.f42 8) = r8_Seal.T8 := by kernel_rfl
theorem r8_Seal.bits8 : waitsOk r8_Seal.T8.2 r8_Seal.B8 = true := by kernel_rfl
set_option maxHeartbeats 8000000 in
set_option maxRecDepth 100000 in
theorem r8_Seal.calls (k : Nat) (a0_0 : ByteArray) (a0_1 : Int) (A0_2 : Option Addr) (c0_2 : Nat) (l0_2 : List (S72)) (A0_3 : Option Addr) (c0_3 : Nat) (l0_3 : List (S74)) (a0_4 : Bool) (a1 : ByteArray) (a2 : ByteArray) (r1 : ByteArray) (r2 : ByteArray) (r3 : Int) (r4 : List (S72)) (r5 : List (S74)) (r6 : Bool) (r7 : Int) (w : World) (hr0_2 : Kd.C k72 w A0_2 l0_2.length l0_2) (hc0_2 : l0_2.length ≤ c0_2) (hr0_3 : Kd.C k74 w A0_3 l0_3.length l0_3) (hc0_3 : l0_3.length ≤ c0_3) (h : r8_Seal.f k a0_0 a0_1 l0_2 l0_3 a0_4 a1 a2 = some (r1, r2, r3, r4, r5, r6, r7)) :
  Calls Try.prog 42 #[.agg #[.string a0_0, .int .i64 a0_1, .slice A0_2 l0_2.length c0_2, .slice A0_3 l0_3.length c0_3, .bool a0_4], .string a1, .string a2] w fun e w' => ∃ v3_ v4_ : Value, e = .returned (.tuple #[.string r1, .agg #[.string r2, .int .i64 r3, v3_, v4_, .bool r6], .int .i64 r7]) ∧ Kd.R k72 72 w' w.heap.size (fun _ => True) v3_ r4 ∧ Kd.R k74 74 w' w.heap.size (fun _ => True) v4_ r5 ∧ Below w.heap.size w w' := by
 have hu50 := Try.underlying50
 have hu23 := Try.underlying23
 have hu74 := Try.underlying74
 have HR0_2 := am hr0_2
 have HC0_2 := am hc0_2
 clear hr0_2 hc0_2
 have HR0_3 := am hr0_3
 have HC0_3 := am hc0_3
 clear hr0_3 hc0_3
 have HB := am (Below.refl w.heap.size w)
 have H : ((r8_Own.f a0_0 a0_1 l0_2 l0_3 a0_4).bind fun btz3 => ((r8_Right.f k a0_0 a0_1 l0_2 l0_3 a0_4).bind fun tz13 => (if tz13 = true then (if (a1.size : Int) = 16 then (r8_Seal.j0 k a1 a2 ((a2.size : Int) != 24) a0_0 a0_1 l0_2 l0_3 a0_4 btz3.1 btz3.2.1 btz3.2.2.1 btz3.2.2.2.1 btz3.2.2.2.2) else (r8_Seal.j0 k a1 a2 true a0_0 a0_1 l0_2 l0_3 a0_4 btz3.1 btz3.2.1 btz3.2.2.1 btz3.2.2.2.1 btz3.2.2.2.2)) else (r8_Seal.j0 k a1 a2 true a0_0 a0_1 l0_2 l0_3 a0_4 btz3.1 btz3.2.1 btz3.2.2.1 btz3.2.2.2.1 btz3.2.2.2.2)))) = some (r1, r2, r3, r4, r5, r6, r7) := h
 clear h
 replace H := ob_ H
 obtain ⟨⟨tz3, tz4, tz5, tz8, tz11⟩, A40, H⟩ := H
 replace H : ((r8_Right.f k a0_0 a0_1 l0_2 l0_3 a0_4).bind fun tz13 => (if tz13 = true then (if (a1.size : Int) = 16 then (r8_Seal.j0 k a1 a2 ((a2.size : Int) != 24) a0_0 a0_1 l0_2 l0_3 a0_4 tz3 tz4 tz5 tz8 tz11) else (r8_Seal.j0 k a1 a2 true a0_0 a0_1 l0_2 l0_3 a0_4 tz3 tz4 tz5 tz8 tz11)) else (r8_Seal.j0 k a1 a2 true a0_0 a0_1 l0_2 l0_3 a0_4 tz3 tz4 tz5 tz8 tz11))) = some (r1, r2, r3, r4, r5, r6, r7) := H
 have A4 := Aside0.mk A40
 clear A40
 have HC5 := am H
 clear H
 go_enter Try.func42, Try.ntmps42
 go_upto_region 2 with (first | ((with_reducible refine gate_dst (N := 3) rfl ?_); (try (refine gate_guard (by rfl) ?_; dsimp only)); refine box_event ?hg (N := 3) ?hd (cs := #[.string a0_0, .int .i64 a0_1, .slice A0_2 l0_2.length c0_2, .slice A0_3 l0_3.length c0_3, .bool a0_4]) (t := 50) ?hr ?_; (case hd => rfl); (case hg => rfl); (case hr => first | (go_simp; done) | (go_simp; rfl)); intro gbz1 hg w6 hbox hb; have n0_ := am (below_step (pb HB) hb); have n1_ := am (hbox); have n2_ := ge_ hg (pb HB); have n3_ := ge_ hg (pb HB); clear HB; have HB := n0_; have BKz1 := n1_; have GWz1 := n2_; have GEz1 := n3_; clear n0_ n1_ n2_ n3_; clear hb hbox hg) | ((with_reducible refine gate_dst (N := 7) rfl ?_); (try (refine gate_guard (by rfl) ?_; dsimp only)); refine box_event ?hg (N := 7) ?hd (cs := #[.string (⟨#[]⟩ : ByteArray), .int .i64 0, .slice none 0 0, .slice none 0 0, .bool false]) (t := 50) ?hr ?_; (case hd => rfl); (case hg => rfl); (case hr => first | (go_simp; done) | (go_simp; rfl)); intro gbz2 hg w7 hbox hb; have n0_ := am (bkB (pk BKz1) hb); have n1_ := am (below_step (sC_ HB) hb); have n2_ := am (hbox); have n3_ := ge_ hg (sC_ HB); have n4_ := ge_ hg (sC_ HB); have n5_ := nl_ hg BKz1; have n6_ := ng_ hg BKz1; clear BKz1; clear HB; have BKz1 := n0_; have HB := n1_; have BKz2 := n2_; have GWz2 := n3_; have GEz2 := n4_; have NBz1_z2 := n5_; have NBz2_z1 := n6_; clear n0_ n1_ n2_ n3_ n4_ n5_ n6_; clear hb hbox hg; have hnb8 := NBz1_z2.out; have hnc8 := NBz2_z1.out; obtain ⟨hcz9_0, hcz9_1, hcz9_2, hcz9_3, hcz9_4⟩ := bc5 BKz1; obtain ⟨hfz9_0, hfz9_1, hfz9_2, hfz9_3, hfz9_4⟩ := bf5 BKz1) | ((with_reducible refine gate_callee (f := 53) rfl ?_); refine goesL_ (some 15) rfl rfl Try.func53 (by kernel_rfl) rfl #[.agg #[.string a0_0, .int .i64 a0_1, .slice A0_2 l0_2.length c0_2, .slice A0_3 l0_3.length c0_3, .bool a0_4]] rfl (by (try simp only [List.map_toArray, List.map_cons, List.map_nil]) <;> rfl) ?_; (with_reducible refine (r8_Own.calls a0_0 a0_1 _ _ l0_2 _ _ l0_3 a0_4 tz3 tz4 tz5 tz8 tz11 _ ?side1 ?side2 ?side3 ?side4 A4.out).mono ?_); (case side1 => repeat (first | exact (Kd.C_below HR0_2.out HB.out) | (with_reducible refine Kd.C_alloc ?_ _) | (with_reducible refine Kd.C_drewN ?_ _) | (with_reducible refine Kd.C_drew ?_))); (case side2 => exact HC0_2.out); (case side3 => repeat (first | exact (Kd.C_below HR0_3.out HB.out) | (with_reducible refine Kd.C_alloc ?_ _) | (with_reducible refine Kd.C_drewN ?_ _) | (with_reducible refine Kd.C_drew ?_))); (case side4 => exact HC0_3.out); rintro e w10 ⟨vz6, vz9, rfl, ho0, ho1, hb⟩; refine ⟨_, rfl, ?_⟩; have n0_ := am (Kd.R_lower ho0 (below_size (sC_ HB))); have n1_ := am (Kd.R_lower ho1 (below_size (sC_ HB))); have n2_ := am (bkB (pk BKz1) hb); have n3_ := am (bkB (g := gbz2) (o := .cells #[.string (⟨#[]⟩ : ByteArray), .int .i64 0, .slice none 0 0, .slice none 0 0, .bool false] 50 (0, 0)) (pk BKz2) hb); have n4_ := am (below_step (sC_ HB) hb); clear BKz1; clear BKz2; clear HB; have HOz7 := n0_; have HOz10 := n1_; have BKz1 := n2_; have BKz2 := n3_; have HB := n4_; clear n0_ n1_ n2_ n3_ n4_; (try clear ho1)) | ((with_reducible refine gate_dst (N := 9) rfl ?_); (try (refine gate_guard (by rfl) ?_; dsimp only)); refine box_event ?hg (N := 9) ?hd (cs := #[.string (⟨#[]⟩ : ByteArray), .int .i64 0, .slice none 0 0, .slice none 0 0, .bool false]) (t := 50) ?hr ?_; (case hd => rfl); (case hg => rfl); (case hr => first | (go_simp; done) | (go_simp; rfl)); intro gbz12 hg w11 hbox hb; have n0_ := am (Kd.R_below (pr HOz7) hb); have n1_ := am (Kd.R_below (pr HOz10) hb); have n2_ := am (bkB (pk BKz1) hb); have n3_ := am (bkB (g := gbz2) (o := .cells #[.string (⟨#[]⟩ : ByteArray), .int .i64 0, .slice none 0 0, .slice none 0 0, .bool false] 50 (0, 0)) (pk BKz2) hb); have n4_ := am (below_step (sC_ HB) hb); have n5_ := am (hbox); have n6_ := ge_ hg (sC_ HB); have n7_ := ge_ hg (sC_ HB); have n8_ := nl_ hg BKz1; have n9_ := ng_ hg BKz1; have n10_ := am ((by rw [hg]; exact Nat.ne_of_lt (blk_lt (g := gbz2) (o := .cells #[.string (⟨#[]⟩ : ByteArray), .int .i64 0, .slice none 0 0, .slice none 0 0, .bool false] 50 (0, 0)) (pk BKz2)) : gbz2 ≠ gbz12)); have n11_ := am ((by rw [hg]; exact Nat.ne_of_gt (blk_lt (g := gbz2) (o := .cells #[.string (⟨#[]⟩ : ByteArray), .int .i64 0, .slice none 0 0, .slice none 0 0, .bool false] 50 (0, 0)) (pk BKz2)) : gbz12 ≠ gbz2)); clear HOz7; clear HOz10; clear BKz1; clear BKz2; clear HB; have HOz7 := n0_; have HOz10 := n1_; have BKz1 := n2_; have BKz2 := n3_; have HB := n4_; have BKz12 := n5_; have GWz12 := n6_; have GEz12 := n7_; have NBz1_z12 := n8_; have NBz12_z1 := n9_; have NBz2_z12 := n10_; have NBz12_z2 := n11_; clear n0_ n1_ n2_ n3_ n4_ n5_ n6_ n7_ n8_ n9_ n10_ n11_; clear hb hbox hg; have hnb12 := NBz12_z1.out; have hnc12 := NBz1_z12.out; have hnb13 := NBz12_z2.out; have hnc13 := NBz2_z12.out; obtain ⟨hcz14_0, hcz14_1, hcz14_2, hcz14_3, hcz14_4⟩ := bc5 BKz12; obtain ⟨hfz14_0, hfz14_1, hfz14_2, hfz14_3, hfz14_4⟩ := bf5 BKz12; obtain ⟨Ao15, co15, eo15⟩ := Kd.R_slice HOz7.out; subst eo15; obtain ⟨Ao16, co16, eo16⟩ := Kd.R_slice HOz10.out; subst eo16))
 (try simp only [Act.put, List.setIfInBounds_toArray, List.set_cons_zero, List.set_cons_succ])
 go_cut [28] (fun v28 wc => ∃ (kq : Nat) (x28_4 : Bool), v28 = .bool x28_4 ∧ Aside0 (r8_Seal.j0 kq a1 a2 x28_4 a0_0 a0_1 l0_2 l0_3 a0_4 tz3 tz4 tz5 tz8 tz11 = some (r1, r2, r3, r4, r5, r6, r7)) ∧ Aside0 (kq ≤ k) ∧ Aside0 (Kd.R k72 72 wc w.heap.size (fun _ => True) (.slice Ao15 tz5.length co15) tz5) ∧ Aside0 (Kd.R k74 74 wc w.heap.size (fun _ => True) (.slice Ao16 tz8.length co16) tz8) ∧ Aside0 (wc.heap[gbz1]? = some (.cells #[.string a0_0, .int .i64 a0_1, (.slice A0_2 l0_2.length c0_2), (.slice A0_3 l0_3.length c0_3), .bool a0_4] 50 (0, 0))) ∧ Aside0 (wc.heap[gbz2]? = some (.cells #[.string (⟨#[]⟩ : ByteArray), .int .i64 0, (.slice none 0 0), (.slice none 0 0), .bool false] 50 (0, 0))) ∧ Aside0 (wc.heap[gbz12]? = some (.cells #[.string tz3, .int .i64 tz4, (.slice Ao15 tz5.length co15), (.slice Ao16 tz8.length co16), .bool tz11] 50 (0, 0))) ∧ Aside0 (Below w.heap.size w wc))
 case first =>
  have H := HC5.out
  clear HC5
  replace H := ob_ H
  obtain ⟨tz13, A170, H⟩ := H
  replace H : (if tz13 = true then (if (a1.size : Int) = 16 then (r8_Seal.j0 k a1 a2 ((a2.size : Int) != 24) a0_0 a0_1 l0_2 l0_3 a0_4 tz3 tz4 tz5 tz8 tz11) else (r8_Seal.j0 k a1 a2 true a0_0 a0_1 l0_2 l0_3 a0_4 tz3 tz4 tz5 tz8 tz11)) else (r8_Seal.j0 k a1 a2 true a0_0 a0_1 l0_2 l0_3 a0_4 tz3 tz4 tz5 tz8 tz11)) = some (r1, r2, r3, r4, r5, r6, r7) := H
  have A17 := Aside0.mk A170
  clear A170
  by_cases c18 : tz13 = true
  rotate_left
  ·replace c18 := Bool.eq_false_iff.mpr c18
   subst c18
   have H1 : (r8_Seal.j0 k a1 a2 true a0_0 a0_1 l0_2 l0_3 a0_4 tz3 tz4 tz5 tz8 tz11) = some (r1, r2, r3, r4, r5, r6, r7) := by rw [if_neg (show ¬ (false = true) by decide)] at H; exact H
   clear H
   have H := H1
   clear H1
   have H' := am H
   clear H
   have hnb28 := NBz1_z2.out
   have hnc28 := NBz2_z1.out
   have hnb29 := NBz1_z12.out
   have hnc29 := NBz12_z1.out
   obtain ⟨hcz30_0, hcz30_1, hcz30_2, hcz30_3, hcz30_4⟩ := bc5 BKz1
   obtain ⟨hfz30_0, hfz30_1, hfz30_2, hfz30_3, hfz30_4⟩ := bf5 BKz1
   go_wp2_with (first | ((with_reducible refine gate_callee (f := 38) rfl ?_); refine goesL_ (some 17) rfl rfl Try.func38 (by kernel_rfl) rfl #[.agg #[.string a0_0, .int .i64 a0_1, .slice A0_2 l0_2.length c0_2, .slice A0_3 l0_3.length c0_3, .bool a0_4]] rfl (by (try simp only [List.map_toArray, List.map_cons, List.map_nil]) <;> rfl) ?_; (with_reducible refine (r8_Right.calls k a0_0 a0_1 _ _ l0_2 _ _ l0_3 a0_4 false _ ?side1 ?side2 ?side3 ?side4 A17.out).mono ?_); (case side1 => exact Kd.C_below HR0_2.out (sC_ HB)); (case side2 => exact HC0_2.out); (case side3 => exact Kd.C_below HR0_3.out (sC_ HB)); (case side4 => exact HC0_3.out); rintro e w31 ⟨rfl, hb⟩; refine ⟨_, rfl, ?_⟩; have n0_ := am (Kd.R_below (by (with_reducible repeat first | apply ra | apply rn | apply rd); exact (rs5 HOz7 BKz12 (by decide))) hb); have n1_ := am (Kd.R_below (by (with_reducible repeat first | apply ra | apply rn | apply rd); exact (rs5 HOz10 BKz12 (by decide))) hb); have n2_ := am (bkB (g := gbz1) (o := .cells #[.string a0_0, .int .i64 a0_1, .slice A0_2 l0_2.length c0_2, .slice A0_3 l0_3.length c0_3, .bool a0_4] 50 (0, 0)) (by (with_reducible repeat (first | refine blk_drewN ?_ _ | refine bkD ?_ | refine bkA ?_ _)); refine br5 ?_ NBz1_z12; exact pk BKz1) hb); have n3_ := am (bkB (g := gbz2) (o := .cells #[.string (⟨#[]⟩ : ByteArray), .int .i64 0, .slice none 0 0, .slice none 0 0, .bool false] 50 (0, 0)) (by (with_reducible repeat (first | refine blk_drewN ?_ _ | refine bkD ?_ | refine bkA ?_ _)); refine br5 ?_ NBz2_z12; exact pk BKz2) hb); have n4_ := am (bkB (g := gbz12) (o := .cells #[.string tz3, .int .i64 tz4, .slice Ao15 tz5.length co15, .slice Ao16 tz8.length co16, .bool tz11] 50 (0, 0)) (by (with_reducible repeat (first | refine blk_drewN ?_ _ | refine bkD ?_ | refine bkA ?_ _)); apply bp5; exact pk BKz12) hb); have n5_ := am (below_step (sC_ HB) hb); clear HOz7; clear HOz10; clear BKz1; clear BKz2; clear BKz12; clear HB; have HOz7 := n0_; have HOz10 := n1_; have BKz1 := n2_; have BKz2 := n3_; have BKz12 := n4_; have HB := n5_; clear n0_ n1_ n2_ n3_ n4_ n5_; (try clear hi)))
   go_meet
   case rel => exact ⟨_, (true), (by first | rfl | (simp; done) | (simp [*]; done)), H', ⟨by first | omega | exact Nat.le_refl _⟩, (sr_ HOz7), (sr_ HOz10), (sk_ BKz1), (sk_ BKz2), (sk_ BKz12), (sB_ HB)⟩
  subst c18
  have H1 : (if (a1.size : Int) = 16 then (r8_Seal.j0 k a1 a2 ((a2.size : Int) != 24) a0_0 a0_1 l0_2 l0_3 a0_4 tz3 tz4 tz5 tz8 tz11) else (r8_Seal.j0 k a1 a2 true a0_0 a0_1 l0_2 l0_3 a0_4 tz3 tz4 tz5 tz8 tz11)) = some (r1, r2, r3, r4, r5, r6, r7) := by rw [if_pos rfl] at H; exact H
  clear H
  have H := H1
  clear H1
  by_cases c19 : (a1.size : Int) = 16
  rotate_left
  ·rw [if_neg c19] at H
   have c19b0 : ((a1.size : Int) == 16) = false := beq_eq_false_iff_ne.mpr c19
   have c19b1 : ((a1.size : Int) != 16) = true := bne_iff_ne.mpr c19
   (first | rw [c19b0] | rw [c19b1] | (simp only [i64_w, i32_w]; rw [c19b0]) | skip)
   have H' := am H
   clear H
   have hnb24 := NBz1_z2.out
   have hnc24 := NBz2_z1.out
   have hnb25 := NBz1_z12.out
   have hnc25 := NBz12_z1.out
   obtain ⟨hcz26_0, hcz26_1, hcz26_2, hcz26_3, hcz26_4⟩ := bc5 BKz1
   obtain ⟨hfz26_0, hfz26_1, hfz26_2, hfz26_3, hfz26_4⟩ := bf5 BKz1
   go_wp2_with (first | ((with_reducible refine gate_callee (f := 38) rfl ?_); refine goesL_ (some 17) rfl rfl Try.func38 (by kernel_rfl) rfl #[.agg #[.string a0_0, .int .i64 a0_1, .slice A0_2 l0_2.length c0_2, .slice A0_3 l0_3.length c0_3, .bool a0_4]] rfl (by (try simp only [List.map_toArray, List.map_cons, List.map_nil]) <;> rfl) ?_; (with_reducible refine (r8_Right.calls k a0_0 a0_1 _ _ l0_2 _ _ l0_3 a0_4 true _ ?side1 ?side2 ?side3 ?side4 A17.out).mono ?_); (case side1 => exact Kd.C_below HR0_2.out (sC_ HB)); (case side2 => exact HC0_2.out); (case side3 => exact Kd.C_below HR0_3.out (sC_ HB)); (case side4 => exact HC0_3.out); rintro e w27 ⟨rfl, hb⟩; refine ⟨_, rfl, ?_⟩; have n0_ := am (Kd.R_below (by (with_reducible repeat first | apply ra | apply rn | apply rd); exact (rs5 HOz7 BKz12 (by decide))) hb); have n1_ := am (Kd.R_below (by (with_reducible repeat first | apply ra | apply rn | apply rd); exact (rs5 HOz10 BKz12 (by decide))) hb); have n2_ := am (bkB (g := gbz1) (o := .cells #[.string a0_0, .int .i64 a0_1, .slice A0_2 l0_2.length c0_2, .slice A0_3 l0_3.length c0_3, .bool a0_4] 50 (0, 0)) (by (with_reducible repeat (first | refine blk_drewN ?_ _ | refine bkD ?_ | refine bkA ?_ _)); refine br5 ?_ NBz1_z12; exact pk BKz1) hb); have n3_ := am (bkB (g := gbz2) (o := .cells #[.string (⟨#[]⟩ : ByteArray), .int .i64 0, .slice none 0 0, .slice none 0 0, .bool false] 50 (0, 0)) (by (with_reducible repeat (first | refine blk_drewN ?_ _ | refine bkD ?_ | refine bkA ?_ _)); refine br5 ?_ NBz2_z12; exact pk BKz2) hb); have n4_ := am (bkB (g := gbz12) (o := .cells #[.string tz3, .int .i64 tz4, .slice Ao15 tz5.length co15, .slice Ao16 tz8.length co16, .bool tz11] 50 (0, 0)) (by (with_reducible repeat (first | refine blk_drewN ?_ _ | refine bkD ?_ | refine bkA ?_ _)); apply bp5; exact pk BKz12) hb); have n5_ := am (below_step (sC_ HB) hb); clear HOz7; clear HOz10; clear BKz1; clear BKz2; clear BKz12; clear HB; have HOz7 := n0_; have HOz10 := n1_; have BKz1 := n2_; have BKz2 := n3_; have BKz12 := n4_; have HB := n5_; clear n0_ n1_ n2_ n3_ n4_ n5_; (try clear hi)))
   go_meet
   case rel => exact ⟨_, (true), (by first | rfl | (simp; done) | (simp [*]; done)), H', ⟨by first | omega | exact Nat.le_refl _⟩, (sr_ HOz7), (sr_ HOz10), (sk_ BKz1), (sk_ BKz2), (sk_ BKz12), (sB_ HB)⟩
  rw [if_pos c19] at H
  have c19b0 : ((a1.size : Int) == 16) = true := beq_iff_eq.mpr c19
  have c19b1 : ((a1.size : Int) != 16) = false := bne_eq_false_iff_eq.mpr c19
  clear c19
  (first | rw [c19b0] | rw [c19b1] | (simp only [i64_w, i32_w]; rw [c19b0]) | skip)
  have H' := am H
  clear H
  have hnb20 := NBz1_z2.out
  have hnc20 := NBz2_z1.out
  have hnb21 := NBz1_z12.out
  have hnc21 := NBz12_z1.out
  obtain ⟨hcz22_0, hcz22_1, hcz22_2, hcz22_3, hcz22_4⟩ := bc5 BKz1
  obtain ⟨hfz22_0, hfz22_1, hfz22_2, hfz22_3, hfz22_4⟩ := bf5 BKz1
  go_wp2_with (first | ((with_reducible refine gate_callee (f := 38) rfl ?_); refine goesL_ (some 17) rfl rfl Try.func38 (by kernel_rfl) rfl #[.agg #[.string a0_0, .int .i64 a0_1, .slice A0_2 l0_2.length c0_2, .slice A0_3 l0_3.length c0_3, .bool a0_4]] rfl (by (try simp only [List.map_toArray, List.map_cons, List.map_nil]) <;> rfl) ?_; (with_reducible refine (r8_Right.calls k a0_0 a0_1 _ _ l0_2 _ _ l0_3 a0_4 true _ ?side1 ?side2 ?side3 ?side4 A17.out).mono ?_); (case side1 => exact Kd.C_below HR0_2.out (sC_ HB)); (case side2 => exact HC0_2.out); (case side3 => exact Kd.C_below HR0_3.out (sC_ HB)); (case side4 => exact HC0_3.out); rintro e w23 ⟨rfl, hb⟩; refine ⟨_, rfl, ?_⟩; have n0_ := am (Kd.R_below (by (with_reducible repeat first | apply ra | apply rn | apply rd); exact (rs5 HOz7 BKz12 (by decide))) hb); have n1_ := am (Kd.R_below (by (with_reducible repeat first | apply ra | apply rn | apply rd); exact (rs5 HOz10 BKz12 (by decide))) hb); have n2_ := am (bkB (g := gbz1) (o := .cells #[.string a0_0, .int .i64 a0_1, .slice A0_2 l0_2.length c0_2, .slice A0_3 l0_3.length c0_3, .bool a0_4] 50 (0, 0)) (by (with_reducible repeat (first | refine blk_drewN ?_ _ | refine bkD ?_ | refine bkA ?_ _)); refine br5 ?_ NBz1_z12; exact pk BKz1) hb); have n3_ := am (bkB (g := gbz2) (o := .cells #[.string (⟨#[]⟩ : ByteArray), .int .i64 0, .slice none 0 0, .slice none 0 0, .bool false] 50 (0, 0)) (by (with_reducible repeat (first | refine blk_drewN ?_ _ | refine bkD ?_ | refine bkA ?_ _)); refine br5 ?_ NBz2_z12; exact pk BKz2) hb); have n4_ := am (bkB (g := gbz12) (o := .cells #[.string tz3, .int .i64 tz4, .slice Ao15 tz5.length co15, .slice Ao16 tz8.length co16, .bool tz11] 50 (0, 0)) (by (with_reducible repeat (first | refine blk_drewN ?_ _ | refine bkD ?_ | refine bkA ?_ _)); apply bp5; exact pk BKz12) hb); have n5_ := am (below_step (sC_ HB) hb); clear HOz7; clear HOz10; clear BKz1; clear BKz2; clear BKz12; clear HB; have HOz7 := n0_; have HOz10 := n1_; have BKz1 := n2_; have BKz2 := n3_; have BKz12 := n4_; have HB := n5_; clear n0_ n1_ n2_ n3_ n4_ n5_; (try clear hi)))
  go_meet
  case rel => exact ⟨_, (((a2.size : Int) != 24)), (by first | rfl | (simp; done) | (simp [*]; done)), H', ⟨by first | omega | exact Nat.le_refl _⟩, (sr_ HOz7), (sr_ HOz10), (sk_ BKz1), (sk_ BKz2), (sk_ BKz12), (sB_ HB)⟩
 clear HC5
 try clear c1
 try clear c2
 try clear p2
 try clear c3
 try clear c4
 try clear c5
 try clear c8
 try clear c12
 try clear c13
 try clear c18
 try clear c19
 try clear c19b0
 try clear c19b1
 try clear c20
 try clear c21
 try clear c24
 try clear c25
 try clear c28
 try clear c29
 try clear hcz14_0
 try clear hcz14_1
 try clear hcz14_2
 try clear hcz14_3
 try clear hcz14_4
 try clear hcz22_0
 try clear hcz22_1
 try clear hcz22_2
 try clear hcz22_3
 try clear hcz22_4
 try clear hcz26_0
 try clear hcz26_1
 try clear hcz26_2
 try clear hcz26_3
 try clear hcz26_4
 try clear hcz30_0
 try clear hcz30_1
 try clear hcz30_2
 try clear hcz30_3
 try clear hcz30_4
 try clear hcz9_0
 try clear hcz9_1
 try clear hcz9_2
 try clear hcz9_3
 try clear hcz9_4
 try clear hfz14_0
 try clear hfz14_1
 try clear hfz14_2
 try clear hfz14_3
 try clear hfz14_4
 try clear hfz22_0
 try clear hfz22_1
 try clear hfz22_2
 try clear hfz22_3
 try clear hfz22_4
 try clear hfz26_0
 try clear hfz26_1
 try clear hfz26_2
 try clear hfz26_3
 try clear hfz26_4
 try clear hfz30_0
 try clear hfz30_1
 try clear hfz30_2
 try clear hfz30_3
 try clear hfz30_4
 try clear hfz9_0
 try clear hfz9_1
 try clear hfz9_2
 try clear hfz9_3
 try clear hfz9_4
 obtain ⟨kq, x28_4, rfl, HA, HJ4, HO_z13002, HO_z13003, BKz1, BKz2, BKz12, HB⟩ := hcut
 cases kq with
 | zero => exact absurd HA.out (by simp [r8_Seal.j0])
 | succ kj4 => ?_
 have H := HA.out
 clear HA
 simp only [r8_Seal.j0] at H
 by_cases c32 : x28_4 = true
 ·subst c32
  have H1 : (some ((⟨#[]⟩ : ByteArray), tz3, tz4, tz5, tz8, tz11, 1)) = some (r1, r2, r3, r4, r5, r6, r7) := by rw [if_pos rfl] at H; exact H
  clear H
  have H := H1
  clear H1
  simp only [Option.some.injEq, Prod.mk.injEq] at H
  obtain ⟨rfl, rfl, rfl, rfl, rfl, rfl, rfl⟩ := H
  try go_wp2
  have n0_ := am (Kd.R_drew HO_z13002.out)
  have n1_ := am (Kd.R_drew HO_z13003.out)
  have n2_ := am (bkD BKz1.out)
  have n3_ := am (bkD BKz2.out)
  have n4_ := am (bkD BKz12.out)
  have n5_ := am (below_drew1 HB.out)
  clear HO_z13002 HO_z13003 BKz1 BKz2 BKz12 HB; have HO_z13002 := n0_; have HO_z13003 := n1_; have BKz1 := n2_; have BKz2 := n3_; have BKz12 := n4_; have HB := n5_; clear n0_ n1_ n2_ n3_ n4_ n5_
  refine start_ (n := 4) (S := fun w' => w'.cell? ⟨gbz12, 0, none⟩ = some (.string tz3) ∧ w'.cell? ⟨gbz12, 1, none⟩ = some (.int .i64 tz4) ∧ w'.cell? ⟨gbz12, 2, none⟩ = some (.slice Ao15 tz5.length co15) ∧ w'.cell? ⟨gbz12, 3, none⟩ = some (.slice Ao16 tz8.length co16) ∧ w'.cell? ⟨gbz12, 4, none⟩ = some (.bool tz11)) (ds := []) #[false, false, false, false] (by kernel_rfl) rfl rfl (bc5 BKz12) (fun hHeld => ?_)
  generalize wc.drew = w33 at HO_z13002 HO_z13003 BKz1 BKz2 BKz12 HB hHeld ⊢
  refine pn_ 1 (some 6) rfl rfl (.inl ⟨by rfl, by intro w'; go_simp; with_reducible rfl⟩) (by simp only [Act.put, sa_, s0_, s1_, i64_w, i32_w]; rfl) ?_
  refine tn_ 0 (some 29) rfl rfl (.inl ⟨by rfl, by rintro w' ⟨s0, s1, s2, s3, s4⟩; go_simp; with_reducible rfl⟩) hHeld (by simp only [Act.put, sa_, s0_, s1_, i64_w, i32_w]; rfl) ?_
  refine one_ (i := 2) (N := none) #[true, true, true, false] rfl rfl (by kernel_rfl) (by decide) (fun K hK => ?_)
  have hs34 : w33.cell? ⟨gbz2, 0, none⟩ = some (.string (⟨#[]⟩ : ByteArray)) := (blk_cell BKz2.out 0).trans rfl
  have hfs34 := blk_frozen BKz2.out 0
  have := NBz1_z2.out
  have := NBz12_z2.out
  have := NBz2_z1.out
  have := NBz2_z12.out
  have hs35 : w33.cell? ⟨gbz2, 1, none⟩ = some (.int .i64 0) := (blk_cell BKz2.out 1).trans rfl
  have hfs35 := blk_frozen BKz2.out 1
  have := NBz1_z2.out
  have := NBz12_z2.out
  have := NBz2_z1.out
  have := NBz2_z12.out
  have hs36 : w33.cell? ⟨gbz2, 2, none⟩ = some (.slice none 0 0) := (blk_cell BKz2.out 2).trans rfl
  have hfs36 := blk_frozen BKz2.out 2
  have := NBz1_z2.out
  have := NBz12_z2.out
  have := NBz2_z1.out
  have := NBz2_z12.out
  have hs37 : w33.cell? ⟨gbz2, 3, none⟩ = some (.slice none 0 0) := (blk_cell BKz2.out 3).trans rfl
  have hfs37 := blk_frozen BKz2.out 3
  have := NBz1_z2.out
  have := NBz12_z2.out
  have := NBz2_z1.out
  have := NBz2_z12.out
  have hs38 : w33.cell? ⟨gbz2, 4, none⟩ = some (.bool false) := (blk_cell BKz2.out 4).trans rfl
  have hfs38 := blk_frozen BKz2.out 4
  have := NBz1_z2.out
  have := NBz12_z2.out
  have := NBz2_z1.out
  have := NBz2_z12.out
  refine skip_ (by rfl) rfl (by go_simp; rfl) ?_
  refine hK.out _ _ ⟨((cf5 NBz12_z2).trans (hHeld.1)), ((cf5 NBz12_z2).trans (hHeld.2.1)), ((cf5 NBz12_z2).trans (hHeld.2.2.1)), ((cf5 NBz12_z2).trans (hHeld.2.2.2.1)), ((cf5 NBz12_z2).trans (hHeld.2.2.2.2))⟩ (fun hHeld => ?_)
  clear hK K
  refine pn_ 3 (some 8) rfl rfl (.inl ⟨by rfl, by intro w'; go_simp; with_reducible rfl⟩) (by simp only [Act.put, sa_, s0_, s1_, i64_w, i32_w]; rfl) ?_
  refine done_ (by kernel_rfl) ?_
  try go_wp2
  refine bodyPost_ret (results_list (rs := [.tmp 6, .cell 7 50, .tmp 8]) rfl (by simp) (.tmp (.cell gbz2 50 #[.string tz3, .int .i64 tz4, .slice Ao15 tz5.length co15, .slice Ao16 tz8.length co16, .bool tz11] (0, 0) _ rfl (by (with_reducible repeat (first | refine blk_drewN ?_ _ | refine bkD ?_ | refine bkA ?_ _)); apply bp5; exact pk BKz2) Try.underlying50 rfl (by kernel_rfl) (.tmp .nil)))) rfl ?_
  exact ⟨_, _, by first | rfl | (simp <;> rfl) | (simp [*] <;> rfl), by (with_reducible repeat first | apply ra | apply rn | apply rd); exact Kd.R_mono (rf5 (Kd.R_types HO_z13002.out BKz2.out (by decide)) (fun _ hk => hk.2)) (fun _ hk => trivial), by (with_reducible repeat first | apply ra | apply rn | apply rd); exact Kd.R_mono (rf5 (Kd.R_types HO_z13003.out BKz2.out (by decide)) (fun _ hk => hk.2)) (fun _ hk => trivial), sC_ HB⟩
 replace c32 := Bool.eq_false_iff.mpr c32
 subst c32
 have H1 : (r8_Seal.l0 kj4 a1 a2 0 a0_0 a0_1 l0_2 l0_3 a0_4 tz3 tz4 tz5 tz8 tz11) = some (r1, r2, r3, r4, r5, r6, r7) := by rw [if_neg (show ¬ (false = true) by decide)] at H; exact H
 clear H
 have H := H1
 clear H1
 have H' := am H
 clear H
 go_wp2
 go_loopg [10] kj4 (fun kq v10 w' => ∃ (x10_2 : Int) (xz3000_2 : ByteArray) (xz3001_2 : Int) (xz3004_2 : Bool), v10 = .int .i64 x10_2 ∧ Aside0 (r8_Seal.l0 kq a1 a2 x10_2 a0_0 a0_1 l0_2 l0_3 a0_4 tz3 tz4 tz5 tz8 tz11 = some (r1, r2, r3, r4, r5, r6, r7)) ∧ Aside0 (kq ≤ kj4) ∧ Aside0 (Kd.R k72 72 w' w.heap.size (fun _ => True) (.slice Ao15 tz5.length co15) tz5) ∧ Aside0 (Kd.R k74 74 w' w.heap.size (fun _ => True) (.slice Ao16 tz8.length co16) tz8) ∧ Aside0 (w'.heap[gbz1]? = some (.cells #[.string a0_0, .int .i64 a0_1, (.slice A0_2 l0_2.length c0_2), (.slice A0_3 l0_3.length c0_3), .bool a0_4] 50 (0, 0))) ∧ Aside0 (w'.heap[gbz2]? = some (.cells #[.string xz3000_2, .int .i64 xz3001_2, (.slice none 0 0), (.slice none 0 0), .bool xz3004_2] 50 (0, 0))) ∧ Aside0 (w'.heap[gbz12]? = some (.cells #[.string tz3, .int .i64 tz4, (.slice Ao15 tz5.length co15), (.slice Ao16 tz8.length co16), .bool tz11] 50 (0, 0))) ∧ Aside0 (Below w.heap.size w w'))
 case atStart => exact ⟨(0), ((⟨#[]⟩ : ByteArray)), (0), (false), (by first | rfl | (simp; done) | (simp [*]; done)), H', ⟨Nat.le_refl _⟩, (sr_ HO_z13002), (sr_ HO_z13003), (sk_ BKz1), (sk_ BKz2), (sk_ BKz12), (sB_ HB)⟩
 clear H'
 try clear c1
 try clear c2
 try clear p2
 try clear c3
 try clear c4
 try clear c5
 try clear c8
 try clear c12
 try clear c13
 try clear c18
 try clear c19
 try clear c19b0
 try clear c19b1
 try clear c20
 try clear c21
 try clear c24
 try clear c25
 try clear c28
 try clear c29
 try clear c32
 try clear c38
 try clear hcz14_0
 try clear hcz14_1
 try clear hcz14_2
 try clear hcz14_3
 try clear hcz14_4
 try clear hcz22_0
 try clear hcz22_1
 try clear hcz22_2
 try clear hcz22_3
 try clear hcz22_4
 try clear hcz26_0
 try clear hcz26_1
 try clear hcz26_2
 try clear hcz26_3
 try clear hcz26_4
 try clear hcz30_0
 try clear hcz30_1
 try clear hcz30_2
 try clear hcz30_3
 try clear hcz30_4
 try clear hcz9_0
 try clear hcz9_1
 try clear hcz9_2
 try clear hcz9_3
 try clear hcz9_4
 try clear hfz14_0
 try clear hfz14_1
 try clear hfz14_2
 try clear hfz14_3
 try clear hfz14_4
 try clear hfz22_0
 try clear hfz22_1
 try clear hfz22_2
 try clear hfz22_3
 try clear hfz22_4
 try clear hfz26_0
 try clear hfz26_1
 try clear hfz26_2
 try clear hfz26_3
 try clear hfz26_4
 try clear hfz30_0
 try clear hfz30_1
 try clear hfz30_2
 try clear hfz30_3
 try clear hfz30_4
 try clear hfz9_0
 try clear hfz9_1
 try clear hfz9_2
 try clear hfz9_3
 try clear hfz9_4
 try clear p2
 obtain ⟨x10_2, xz3000_2, xz3001_2, xz3004_2, rfl, HA, HK2, HO_z13002, HO_z13003, BKz1, BKz2, BKz12, HB⟩ := hrel
 cases gk with
 | zero => exact absurd HA.out (by simp [r8_Seal.l0])
 | succ k2 => ?_
 have H := HA.out
 clear HA
 simp only [r8_Seal.l0] at H
 by_cases c39 : x10_2 < (l0_3.length : Int)
 ·rw [if_pos c39] at H
  have c39b0 : decide (x10_2 < (l0_3.length : Int)) = true := decide_eq_true c39
  clear c39
  by_cases c40 : 0 ≤ x10_2
  rotate_left
  ·rw [if_neg c40] at H
   exact absurd H (by simp)
  rw [if_pos c40] at H
  have c40b0 : decide (0 ≤ x10_2) = true := decide_eq_true c40
  clear c40
  by_cases c41 : ((rd_T74 l0_3 x10_2).f0).toList = a1.toList
  rotate_left
  ·rw [if_neg c41] at H
   have c41b0 : (((rd_T74 l0_3 x10_2).f0).toList == a1.toList) = false := beq_eq_false_iff_ne.mpr c41
   have c41b1 : (((rd_T74 l0_3 x10_2).f0).toList != a1.toList) = true := bne_iff_ne.mpr c41
   have H' := am H
   clear H
   have hnb55 := NBz1_z2.out
   have hnc55 := NBz2_z1.out
   have hnb56 := NBz1_z12.out
   have hnc56 := NBz12_z1.out
   obtain ⟨hcz57_0, hcz57_1, hcz57_2, hcz57_3, hcz57_4⟩ := bc5 BKz1
   obtain ⟨hfz57_0, hfz57_1, hfz57_2, hfz57_3, hfz57_4⟩ := bf5 BKz1
   have pz14 : 0 ≤ (x10_2 : Int) := of_decide_eq_true (by first | (with_reducible assumption) | assumption)
   have qz14 : x10_2 < (l0_3.length : Int) := of_decide_eq_true (by first | (with_reducible assumption) | assumption)
   obtain ⟨adz14, ez14, hxz14_0, hxz14_1, hxz14_2⟩ := at_T74 HR0_3.out x10_2 pz14 qz14
   cases ez14
   replace hxz14_0 := (HB.out.cell (World.block_lt_of_cell? w _ hxz14_0)).trans hxz14_0
   replace hxz14_1 := (HB.out.cell (World.block_lt_of_cell? w _ hxz14_1)).trans hxz14_1
   replace hxz14_2 := (HB.out.cell (World.block_lt_of_cell? w _ hxz14_2)).trans hxz14_2
   replace pz14 := eq_true pz14
   replace qz14 := eq_true qz14
   go_wp2
   go_roundg k2
   case measure => have := HJ4.out; have := HK2.out; omega
   case rel => exact ⟨(wrap64 (x10_2 + 1)), (xz3000_2), (xz3001_2), (xz3004_2), (by first | rfl | (simp; done) | (simp [*]; done)), H', ⟨by have := HJ4.out; have := HK2.out; omega⟩, (sr_ HO_z13002), (sr_ HO_z13003), (sk_ BKz1), (sk_ BKz2), (sk_ BKz12), (sB_ HB)⟩
  rw [if_pos c41] at H
  have c41b0 : (((rd_T74 l0_3 x10_2).f0).toList == a1.toList) = true := beq_iff_eq.mpr c41
  have c41b1 : (((rd_T74 l0_3 x10_2).f0).toList != a1.toList) = false := bne_eq_false_iff_eq.mpr c41
  clear c41
  by_cases c42 : ((rd_T74 l0_3 x10_2).f1).toList = a2.toList
  rotate_left
  ·rw [if_neg c42] at H
   have c42b0 : (((rd_T74 l0_3 x10_2).f1).toList == a2.toList) = false := beq_eq_false_iff_ne.mpr c42
   have c42b1 : (((rd_T74 l0_3 x10_2).f1).toList != a2.toList) = true := bne_iff_ne.mpr c42
   have H' := am H
   clear H
   have hnb52 := NBz1_z2.out
   have hnc52 := NBz2_z1.out
   have hnb53 := NBz1_z12.out
   have hnc53 := NBz12_z1.out
   obtain ⟨hcz54_0, hcz54_1, hcz54_2, hcz54_3, hcz54_4⟩ := bc5 BKz1
   obtain ⟨hfz54_0, hfz54_1, hfz54_2, hfz54_3, hfz54_4⟩ := bf5 BKz1
   have pz14 : 0 ≤ (x10_2 : Int) := of_decide_eq_true (by first | (with_reducible assumption) | assumption)
   have qz14 : x10_2 < (l0_3.length : Int) := of_decide_eq_true (by first | (with_reducible assumption) | assumption)
   obtain ⟨adz14, ez14, hxz14_0, hxz14_1, hxz14_2⟩ := at_T74 HR0_3.out x10_2 pz14 qz14
   cases ez14
   replace hxz14_0 := (HB.out.cell (World.block_lt_of_cell? w _ hxz14_0)).trans hxz14_0
   replace hxz14_1 := (HB.out.cell (World.block_lt_of_cell? w _ hxz14_1)).trans hxz14_1
   replace hxz14_2 := (HB.out.cell (World.block_lt_of_cell? w _ hxz14_2)).trans hxz14_2
   replace pz14 := eq_true pz14
   replace qz14 := eq_true qz14
   have pz15 : 0 ≤ (x10_2 : Int) := of_decide_eq_true (by first | (with_reducible assumption) | assumption)
   have qz15 : x10_2 < (l0_3.length : Int) := of_decide_eq_true (by first | (with_reducible assumption) | assumption)
   obtain ⟨adz15, ez15, hxz15_0, hxz15_1, hxz15_2⟩ := at_T74 HR0_3.out x10_2 pz15 qz15
   obtain rfl : adz14 = adz15 := (by injection ez15)
   replace hxz15_0 := (HB.out.cell (World.block_lt_of_cell? w _ hxz15_0)).trans hxz15_0
   replace hxz15_1 := (HB.out.cell (World.block_lt_of_cell? w _ hxz15_1)).trans hxz15_1
   replace hxz15_2 := (HB.out.cell (World.block_lt_of_cell? w _ hxz15_2)).trans hxz15_2
   replace pz15 := eq_true pz15
   replace qz15 := eq_true qz15
   go_wp2
   go_roundg k2
   case measure => have := HJ4.out; have := HK2.out; omega
   case rel => exact ⟨(wrap64 (x10_2 + 1)), (xz3000_2), (xz3001_2), (xz3004_2), (by first | rfl | (simp; done) | (simp [*]; done)), H', ⟨by have := HJ4.out; have := HK2.out; omega⟩, (sr_ HO_z13002), (sr_ HO_z13003), (sk_ BKz1), (sk_ BKz2), (sk_ BKz12), (sB_ HB)⟩
  rw [if_pos c42] at H
  have c42b0 : (((rd_T74 l0_3 x10_2).f1).toList == a2.toList) = true := beq_iff_eq.mpr c42
  have c42b1 : (((rd_T74 l0_3 x10_2).f1).toList != a2.toList) = false := bne_eq_false_iff_eq.mpr c42
  clear c42
  simp only [Option.some.injEq, Prod.mk.injEq] at H
  obtain ⟨rfl, rfl, rfl, rfl, rfl, rfl, rfl⟩ := H
  have hnb43 := NBz1_z2.out
  have hnc43 := NBz2_z1.out
  have hnb44 := NBz1_z12.out
  have hnc44 := NBz12_z1.out
  obtain ⟨hcz45_0, hcz45_1, hcz45_2, hcz45_3, hcz45_4⟩ := bc5 BKz1
  obtain ⟨hfz45_0, hfz45_1, hfz45_2, hfz45_3, hfz45_4⟩ := bf5 BKz1
  have pz14 : 0 ≤ (x10_2 : Int) := of_decide_eq_true (by first | (with_reducible assumption) | assumption)
  have qz14 : x10_2 < (l0_3.length : Int) := of_decide_eq_true (by first | (with_reducible assumption) | assumption)
  obtain ⟨adz14, ez14, hxz14_0, hxz14_1, hxz14_2⟩ := at_T74 HR0_3.out x10_2 pz14 qz14
  cases ez14
  replace hxz14_0 := (HB.out.cell (World.block_lt_of_cell? w _ hxz14_0)).trans hxz14_0
  replace hxz14_1 := (HB.out.cell (World.block_lt_of_cell? w _ hxz14_1)).trans hxz14_1
  replace hxz14_2 := (HB.out.cell (World.block_lt_of_cell? w _ hxz14_2)).trans hxz14_2
  replace pz14 := eq_true pz14
  replace qz14 := eq_true qz14
  have pz15 : 0 ≤ (x10_2 : Int) := of_decide_eq_true (by first | (with_reducible assumption) | assumption)
  have qz15 : x10_2 < (l0_3.length : Int) := of_decide_eq_true (by first | (with_reducible assumption) | assumption)
  obtain ⟨adz15, ez15, hxz15_0, hxz15_1, hxz15_2⟩ := at_T74 HR0_3.out x10_2 pz15 qz15
  obtain rfl : adz14 = adz15 := (by injection ez15)
  replace hxz15_0 := (HB.out.cell (World.block_lt_of_cell? w _ hxz15_0)).trans hxz15_0
  replace hxz15_1 := (HB.out.cell (World.block_lt_of_cell? w _ hxz15_1)).trans hxz15_1
  replace hxz15_2 := (HB.out.cell (World.block_lt_of_cell? w _ hxz15_2)).trans hxz15_2
  replace pz15 := eq_true pz15
  replace qz15 := eq_true qz15
  try go_wp2
  have n0_ := am (Kd.R_drew HO_z13002.out)
  have n1_ := am (Kd.R_drew HO_z13003.out)
  have n2_ := am (bkD BKz1.out)
  have n3_ := am (bkD BKz2.out)
  have n4_ := am (bkD BKz12.out)
  have n5_ := am (below_drew1 HB.out)
  clear HO_z13002 HO_z13003 BKz1 BKz2 BKz12 HB; have HO_z13002 := n0_; have HO_z13003 := n1_; have BKz1 := n2_; have BKz2 := n3_; have BKz12 := n4_; have HB := n5_; clear n0_ n1_ n2_ n3_ n4_ n5_
  have pz16 : 0 ≤ (x10_2 : Int) := of_decide_eq_true (by first | (with_reducible assumption) | assumption)
  have qz16 : x10_2 < (l0_3.length : Int) := of_decide_eq_true (by first | (with_reducible assumption) | assumption)
  obtain ⟨adz16, ez16, hxz16_0, hxz16_1, hxz16_2⟩ := at_T74 HR0_3.out x10_2 pz16 qz16
  have hwz16_2 := hxz16_2
  have hwz16_1 := hxz16_1
  have hwz16_0 := hxz16_0
  obtain rfl : adz14 = adz16 := (by injection ez16)
  replace hxz16_0 := (HB.out.cell (World.block_lt_of_cell? w _ hxz16_0)).trans hxz16_0
  replace hxz16_1 := (HB.out.cell (World.block_lt_of_cell? w _ hxz16_1)).trans hxz16_1
  replace hxz16_2 := (HB.out.cell (World.block_lt_of_cell? w _ hxz16_2)).trans hxz16_2
  replace pz16 := eq_true pz16
  replace qz16 := eq_true qz16
  refine start_ (n := 10) (S := fun w' => w'.cell? ⟨gbz1, 0, none⟩ = some (.string a0_0) ∧ w'.cell? ⟨gbz1, 1, none⟩ = some (.int .i64 a0_1) ∧ w'.cell? ⟨gbz1, 2, none⟩ = some (.slice A0_2 l0_2.length c0_2) ∧ w'.cell? ⟨gbz1, 3, none⟩ = some (.slice (some adz14) l0_3.length c0_3) ∧ w'.cell? ⟨gbz1, 4, none⟩ = some (.bool a0_4) ∧ w'.cell? ⟨gbz12, 0, none⟩ = some (.string tz3) ∧ w'.cell? ⟨gbz12, 1, none⟩ = some (.int .i64 tz4) ∧ w'.cell? ⟨gbz12, 2, none⟩ = some (.slice Ao15 tz5.length co15) ∧ w'.cell? ⟨gbz12, 3, none⟩ = some (.slice Ao16 tz8.length co16) ∧ w'.cell? ⟨gbz12, 4, none⟩ = some (.bool tz11) ∧ w'.cell? (adz14.add ((x10_2).toNat * 3)) = some (.string ((rd_T74 l0_3 x10_2).f0)) ∧ w'.cell? ⟨(adz14.add ((x10_2).toNat * 3)).block, (adz14.add ((x10_2).toNat * 3)).off + 1, none⟩ = some (.string ((rd_T74 l0_3 x10_2).f1)) ∧ w'.cell? ⟨(adz14.add ((x10_2).toNat * 3)).block, (adz14.add ((x10_2).toNat * 3)).off + 2, none⟩ = some (.string ((rd_T74 l0_3 x10_2).f2))) (ds := []) #[false, false, false, false, false, false, false, false, false, false] (by kernel_rfl) rfl rfl ⟨(blk_cell BKz1.out 0).trans rfl, (blk_cell BKz1.out 1).trans rfl, (blk_cell BKz1.out 2).trans rfl, (blk_cell BKz1.out 3).trans rfl, (blk_cell BKz1.out 4).trans rfl, (blk_cell BKz12.out 0).trans rfl, (blk_cell BKz12.out 1).trans rfl, (blk_cell BKz12.out 2).trans rfl, (blk_cell BKz12.out 3).trans rfl, (blk_cell BKz12.out 4).trans rfl, ((HB.out.cell (World.block_lt_of_cell? w _ hwz16_0)).trans hwz16_0), ((HB.out.cell (World.block_lt_of_cell? w _ hwz16_1)).trans hwz16_1), ((HB.out.cell (World.block_lt_of_cell? w _ hwz16_2)).trans hwz16_2)⟩ (fun hHeld => ?_); refine with_tabW r8_Seal.tab8 r8_Seal.bits8 (fun HT_ HW_ => ?_)
  generalize wr.drew = w46 at HO_z13002 HO_z13003 BKz1 BKz2 BKz12 HB hxz16_0 hxz16_1 hxz16_2 hHeld ⊢
  refine pv_ 0 (some 55) HT_ ?_
  refine pv_ 2 (some 57) HT_ ?_
  refine tk_ 1 (some 56) HT_ HW_ rfl rfl (.inl ⟨by rfl, by rintro w' ⟨s0, s1, s2, s3, s4, s5, s6, s7, s8, s9, s10, s11, s12⟩; go_simp; with_reducible rfl⟩) hHeld (by simp only [Act.put, sa_, s0_, s1_, i64_w, i32_w]; rfl) ?_
  refine pv_ 3 (some 58) HT_ ?_
  refine pv_ 4 (some 59) HT_ ?_
  refine tk_ 5 (some 60) HT_ HW_ rfl rfl (.inl ⟨by rfl, by rintro w' ⟨s0, s1, s2, s3, s4, s5, s6, s7, s8, s9, s10, s11, s12⟩; go_simp; with_reducible rfl⟩) hHeld (by simp only [Act.put, sa_, s0_, s1_, i64_w, i32_w]; rfl) ?_
  refine pv_ 7 (some 6) HT_ ?_
  refine tk_ 6 (some 61) HT_ HW_ rfl rfl (.inl ⟨by rfl, by rintro w' ⟨s0, s1, s2, s3, s4, s5, s6, s7, s8, s9, s10, s11, s12⟩; go_simp; with_reducible rfl⟩) hHeld (by simp only [Act.put, sa_, s0_, s1_, i64_w, i32_w]; rfl) ?_
  refine on_ 8 none HT_ rfl rfl (fun K hK => ?_)
  have hs47 : w46.cell? ⟨gbz2, 0, none⟩ = some (.string xz3000_2) := (blk_cell BKz2.out 0).trans rfl
  have hfs47 := blk_frozen BKz2.out 0
  have := NBz1_z2.out
  have := NBz12_z2.out
  have := NBz2_z1.out
  have := NBz2_z12.out
  have hs48 : w46.cell? ⟨gbz2, 1, none⟩ = some (.int .i64 xz3001_2) := (blk_cell BKz2.out 1).trans rfl
  have hfs48 := blk_frozen BKz2.out 1
  have := NBz1_z2.out
  have := NBz12_z2.out
  have := NBz2_z1.out
  have := NBz2_z12.out
  have hs49 : w46.cell? ⟨gbz2, 2, none⟩ = some (.slice none 0 0) := (blk_cell BKz2.out 2).trans rfl
  have hfs49 := blk_frozen BKz2.out 2
  have := NBz1_z2.out
  have := NBz12_z2.out
  have := NBz2_z1.out
  have := NBz2_z12.out
  have hs50 : w46.cell? ⟨gbz2, 3, none⟩ = some (.slice none 0 0) := (blk_cell BKz2.out 3).trans rfl
  have hfs50 := blk_frozen BKz2.out 3
  have := NBz1_z2.out
  have := NBz12_z2.out
  have := NBz2_z1.out
  have := NBz2_z12.out
  have hs51 : w46.cell? ⟨gbz2, 4, none⟩ = some (.bool xz3004_2) := (blk_cell BKz2.out 4).trans rfl
  have hfs51 := blk_frozen BKz2.out 4
  have := NBz1_z2.out
  have := NBz12_z2.out
  have := NBz2_z1.out
  have := NBz2_z12.out
  refine skip_ (by rfl) rfl (by go_simp; rfl) ?_
  refine hK.out _ _ ⟨((cf5 NBz1_z2).trans (hHeld.1)), ((cf5 NBz1_z2).trans (hHeld.2.1)), ((cf5 NBz1_z2).trans (hHeld.2.2.1)), ((cf5 NBz1_z2).trans (hHeld.2.2.2.1)), ((cf5 NBz1_z2).trans (hHeld.2.2.2.2.1)), ((cf5 NBz12_z2).trans (hHeld.2.2.2.2.2.1)), ((cf5 NBz12_z2).trans (hHeld.2.2.2.2.2.2.1)), ((cf5 NBz12_z2).trans (hHeld.2.2.2.2.2.2.2.1)), ((cf5 NBz12_z2).trans (hHeld.2.2.2.2.2.2.2.2.1)), ((cf5 NBz12_z2).trans (hHeld.2.2.2.2.2.2.2.2.2.1)), ((cell_far (p := ⟨gbz2, _, none⟩) (by first | exact Nat.ne_of_lt (Nat.lt_of_lt_of_le (by have := World.block_lt_of_cell? _ _ hwz16_0; first | rwa [add_block] at this | exact this) GWz2.out) | (rw [add_block]; exact Nat.ne_of_lt (Nat.lt_of_lt_of_le (by have := World.block_lt_of_cell? _ _ hwz16_0; first | rwa [add_block] at this | exact this) GWz2.out)) | (show (Addr.add _ _).block ≠ _; rw [add_block]; exact Nat.ne_of_lt (Nat.lt_of_lt_of_le (by have := World.block_lt_of_cell? _ _ hwz16_0; first | rwa [add_block] at this | exact this) GWz2.out)) | (dsimp only; exact Nat.ne_of_lt (Nat.lt_of_lt_of_le (by have := World.block_lt_of_cell? _ _ hwz16_0; first | rwa [add_block] at this | exact this) GWz2.out))) _).trans (((cell_far (p := ⟨gbz2, _, none⟩) (by first | exact Nat.ne_of_lt (Nat.lt_of_lt_of_le (by have := World.block_lt_of_cell? _ _ hwz16_0; first | rwa [add_block] at this | exact this) GWz2.out) | (rw [add_block]; exact Nat.ne_of_lt (Nat.lt_of_lt_of_le (by have := World.block_lt_of_cell? _ _ hwz16_0; first | rwa [add_block] at this | exact this) GWz2.out)) | (show (Addr.add _ _).block ≠ _; rw [add_block]; exact Nat.ne_of_lt (Nat.lt_of_lt_of_le (by have := World.block_lt_of_cell? _ _ hwz16_0; first | rwa [add_block] at this | exact this) GWz2.out)) | (dsimp only; exact Nat.ne_of_lt (Nat.lt_of_lt_of_le (by have := World.block_lt_of_cell? _ _ hwz16_0; first | rwa [add_block] at this | exact this) GWz2.out))) _).trans (((cell_far (p := ⟨gbz2, _, none⟩) (by first | exact Nat.ne_of_lt (Nat.lt_of_lt_of_le (by have := World.block_lt_of_cell? _ _ hwz16_0; first | rwa [add_block] at this | exact this) GWz2.out) | (rw [add_block]; exact Nat.ne_of_lt (Nat.lt_of_lt_of_le (by have := World.block_lt_of_cell? _ _ hwz16_0; first | rwa [add_block] at this | exact this) GWz2.out)) | (show (Addr.add _ _).block ≠ _; rw [add_block]; exact Nat.ne_of_lt (Nat.lt_of_lt_of_le (by have := World.block_lt_of_cell? _ _ hwz16_0; first | rwa [add_block] at this | exact this) GWz2.out)) | (dsimp only; exact Nat.ne_of_lt (Nat.lt_of_lt_of_le (by have := World.block_lt_of_cell? _ _ hwz16_0; first | rwa [add_block] at this | exact this) GWz2.out))) _).trans (((cell_far (p := ⟨gbz2, _, none⟩) (by first | exact Nat.ne_of_lt (Nat.lt_of_lt_of_le (by have := World.block_lt_of_cell? _ _ hwz16_0; first | rwa [add_block] at this | exact this) GWz2.out) | (rw [add_block]; exact Nat.ne_of_lt (Nat.lt_of_lt_of_le (by have := World.block_lt_of_cell? _ _ hwz16_0; first | rwa [add_block] at this | exact this) GWz2.out)) | (show (Addr.add _ _).block ≠ _; rw [add_block]; exact Nat.ne_of_lt (Nat.lt_of_lt_of_le (by have := World.block_lt_of_cell? _ _ hwz16_0; first | rwa [add_block] at this | exact this) GWz2.out)) | (dsimp only; exact Nat.ne_of_lt (Nat.lt_of_lt_of_le (by have := World.block_lt_of_cell? _ _ hwz16_0; first | rwa [add_block] at this | exact this) GWz2.out))) _).trans (((cell_far (p := ⟨gbz2, _, none⟩) (by first | exact Nat.ne_of_lt (Nat.lt_of_lt_of_le (by have := World.block_lt_of_cell? _ _ hwz16_0; first | rwa [add_block] at this | exact this) GWz2.out) | (rw [add_block]; exact Nat.ne_of_lt (Nat.lt_of_lt_of_le (by have := World.block_lt_of_cell? _ _ hwz16_0; first | rwa [add_block] at this | exact this) GWz2.out)) | (show (Addr.add _ _).block ≠ _; rw [add_block]; exact Nat.ne_of_lt (Nat.lt_of_lt_of_le (by have := World.block_lt_of_cell? _ _ hwz16_0; first | rwa [add_block] at this | exact this) GWz2.out)) | (dsimp only; exact Nat.ne_of_lt (Nat.lt_of_lt_of_le (by have := World.block_lt_of_cell? _ _ hwz16_0; first | rwa [add_block] at this | exact this) GWz2.out))) _).trans (hHeld.2.2.2.2.2.2.2.2.2.2.1)))))))))), ((cell_far (p := ⟨gbz2, _, none⟩) (by first | exact Nat.ne_of_lt (Nat.lt_of_lt_of_le (by have := World.block_lt_of_cell? _ _ hwz16_1; first | rwa [add_block] at this | exact this) GWz2.out) | (rw [add_block]; exact Nat.ne_of_lt (Nat.lt_of_lt_of_le (by have := World.block_lt_of_cell? _ _ hwz16_1; first | rwa [add_block] at this | exact this) GWz2.out)) | (show (Addr.add _ _).block ≠ _; rw [add_block]; exact Nat.ne_of_lt (Nat.lt_of_lt_of_le (by have := World.block_lt_of_cell? _ _ hwz16_1; first | rwa [add_block] at this | exact this) GWz2.out)) | (dsimp only; exact Nat.ne_of_lt (Nat.lt_of_lt_of_le (by have := World.block_lt_of_cell? _ _ hwz16_1; first | rwa [add_block] at this | exact this) GWz2.out))) _).trans (((cell_far (p := ⟨gbz2, _, none⟩) (by first | exact Nat.ne_of_lt (Nat.lt_of_lt_of_le (by have := World.block_lt_of_cell? _ _ hwz16_1; first | rwa [add_block] at this | exact this) GWz2.out) | (rw [add_block]; exact Nat.ne_of_lt (Nat.lt_of_lt_of_le (by have := World.block_lt_of_cell? _ _ hwz16_1; first | rwa [add_block] at this | exact this) GWz2.out)) | (show (Addr.add _ _).block ≠ _; rw [add_block]; exact Nat.ne_of_lt (Nat.lt_of_lt_of_le (by have := World.block_lt_of_cell? _ _ hwz16_1; first | rwa [add_block] at this | exact this) GWz2.out)) | (dsimp only; exact Nat.ne_of_lt (Nat.lt_of_lt_of_le (by have := World.block_lt_of_cell? _ _ hwz16_1; first | rwa [add_block] at this | exact this) GWz2.out))) _).trans (((cell_far (p := ⟨gbz2, _, none⟩) (by first | exact Nat.ne_of_lt (Nat.lt_of_lt_of_le (by have := World.block_lt_of_cell? _ _ hwz16_1; first | rwa [add_block] at this | exact this) GWz2.out) | (rw [add_block]; exact Nat.ne_of_lt (Nat.lt_of_lt_of_le (by have := World.block_lt_of_cell? _ _ hwz16_1; first | rwa [add_block] at this | exact this) GWz2.out)) | (show (Addr.add _ _).block ≠ _; rw [add_block]; exact Nat.ne_of_lt (Nat.lt_of_lt_of_le (by have := World.block_lt_of_cell? _ _ hwz16_1; first | rwa [add_block] at this | exact this) GWz2.out)) | (dsimp only; exact Nat.ne_of_lt (Nat.lt_of_lt_of_le (by have := World.block_lt_of_cell? _ _ hwz16_1; first | rwa [add_block] at this | exact this) GWz2.out))) _).trans (((cell_far (p := ⟨gbz2, _, none⟩) (by first | exact Nat.ne_of_lt (Nat.lt_of_lt_of_le (by have := World.block_lt_of_cell? _ _ hwz16_1; first | rwa [add_block] at this | exact this) GWz2.out) | (rw [add_block]; exact Nat.ne_of_lt (Nat.lt_of_lt_of_le (by have := World.block_lt_of_cell? _ _ hwz16_1; first | rwa [add_block] at this | exact this) GWz2.out)) | (show (Addr.add _ _).block ≠ _; rw [add_block]; exact Nat.ne_of_lt (Nat.lt_of_lt_of_le (by have := World.block_lt_of_cell? _ _ hwz16_1; first | rwa [add_block] at this | exact this) GWz2.out)) | (dsimp only; exact Nat.ne_of_lt (Nat.lt_of_lt_of_le (by have := World.block_lt_of_cell? _ _ hwz16_1; first | rwa [add_block] at this | exact this) GWz2.out))) _).trans (((cell_far (p := ⟨gbz2, _, none⟩) (by first | exact Nat.ne_of_lt (Nat.lt_of_lt_of_le (by have := World.block_lt_of_cell? _ _ hwz16_1; first | rwa [add_block] at this | exact this) GWz2.out) | (rw [add_block]; exact Nat.ne_of_lt (Nat.lt_of_lt_of_le (by have := World.block_lt_of_cell? _ _ hwz16_1; first | rwa [add_block] at this | exact this) GWz2.out)) | (show (Addr.add _ _).block ≠ _; rw [add_block]; exact Nat.ne_of_lt (Nat.lt_of_lt_of_le (by have := World.block_lt_of_cell? _ _ hwz16_1; first | rwa [add_block] at this | exact this) GWz2.out)) | (dsimp only; exact Nat.ne_of_lt (Nat.lt_of_lt_of_le (by have := World.block_lt_of_cell? _ _ hwz16_1; first | rwa [add_block] at this | exact this) GWz2.out))) _).trans (hHeld.2.2.2.2.2.2.2.2.2.2.2.1)))))))))), ((cell_far (p := ⟨gbz2, _, none⟩) (by first | exact Nat.ne_of_lt (Nat.lt_of_lt_of_le (by have := World.block_lt_of_cell? _ _ hwz16_2; first | rwa [add_block] at this | exact this) GWz2.out) | (rw [add_block]; exact Nat.ne_of_lt (Nat.lt_of_lt_of_le (by have := World.block_lt_of_cell? _ _ hwz16_2; first | rwa [add_block] at this | exact this) GWz2.out)) | (show (Addr.add _ _).block ≠ _; rw [add_block]; exact Nat.ne_of_lt (Nat.lt_of_lt_of_le (by have := World.block_lt_of_cell? _ _ hwz16_2; first | rwa [add_block] at this | exact this) GWz2.out)) | (dsimp only; exact Nat.ne_of_lt (Nat.lt_of_lt_of_le (by have := World.block_lt_of_cell? _ _ hwz16_2; first | rwa [add_block] at this | exact this) GWz2.out))) _).trans (((cell_far (p := ⟨gbz2, _, none⟩) (by first | exact Nat.ne_of_lt (Nat.lt_of_lt_of_le (by have := World.block_lt_of_cell? _ _ hwz16_2; first | rwa [add_block] at this | exact this) GWz2.out) | (rw [add_block]; exact Nat.ne_of_lt (Nat.lt_of_lt_of_le (by have := World.block_lt_of_cell? _ _ hwz16_2; first | rwa [add_block] at this | exact this) GWz2.out)) | (show (Addr.add _ _).block ≠ _; rw [add_block]; exact Nat.ne_of_lt (Nat.lt_of_lt_of_le (by have := World.block_lt_of_cell? _ _ hwz16_2; first | rwa [add_block] at this | exact this) GWz2.out)) | (dsimp only; exact Nat.ne_of_lt (Nat.lt_of_lt_of_le (by have := World.block_lt_of_cell? _ _ hwz16_2; first | rwa [add_block] at this | exact this) GWz2.out))) _).trans (((cell_far (p := ⟨gbz2, _, none⟩) (by first | exact Nat.ne_of_lt (Nat.lt_of_lt_of_le (by have := World.block_lt_of_cell? _ _ hwz16_2; first | rwa [add_block] at this | exact this) GWz2.out) | (rw [add_block]; exact Nat.ne_of_lt (Nat.lt_of_lt_of_le (by have := World.block_lt_of_cell? _ _ hwz16_2; first | rwa [add_block] at this | exact this) GWz2.out)) | (show (Addr.add _ _).block ≠ _; rw [add_block]; exact Nat.ne_of_lt (Nat.lt_of_lt_of_le (by have := World.block_lt_of_cell? _ _ hwz16_2; first | rwa [add_block] at this | exact this) GWz2.out)) | (dsimp only; exact Nat.ne_of_lt (Nat.lt_of_lt_of_le (by have := World.block_lt_of_cell? _ _ hwz16_2; first | rwa [add_block] at this | exact this) GWz2.out))) _).trans (((cell_far (p := ⟨gbz2, _, none⟩) (by first | exact Nat.ne_of_lt (Nat.lt_of_lt_of_le (by have := World.block_lt_of_cell? _ _ hwz16_2; first | rwa [add_block] at this | exact this) GWz2.out) | (rw [add_block]; exact Nat.ne_of_lt (Nat.lt_of_lt_of_le (by have := World.block_lt_of_cell? _ _ hwz16_2; first | rwa [add_block] at this | exact this) GWz2.out)) | (show (Addr.add _ _).block ≠ _; rw [add_block]; exact Nat.ne_of_lt (Nat.lt_of_lt_of_le (by have := World.block_lt_of_cell? _ _ hwz16_2; first | rwa [add_block] at this | exact this) GWz2.out)) | (dsimp only; exact Nat.ne_of_lt (Nat.lt_of_lt_of_le (by have := World.block_lt_of_cell? _ _ hwz16_2; first | rwa [add_block] at this | exact this) GWz2.out))) _).trans (((cell_far (p := ⟨gbz2, _, none⟩) (by first | exact Nat.ne_of_lt (Nat.lt_of_lt_of_le (by have := World.block_lt_of_cell? _ _ hwz16_2; first | rwa [add_block] at this | exact this) GWz2.out) | (rw [add_block]; exact Nat.ne_of_lt (Nat.lt_of_lt_of_le (by have := World.block_lt_of_cell? _ _ hwz16_2; first | rwa [add_block] at this | exact this) GWz2.out)) | (show (Addr.add _ _).block ≠ _; rw [add_block]; exact Nat.ne_of_lt (Nat.lt_of_lt_of_le (by have := World.block_lt_of_cell? _ _ hwz16_2; first | rwa [add_block] at this | exact this) GWz2.out)) | (dsimp only; exact Nat.ne_of_lt (Nat.lt_of_lt_of_le (by have := World.block_lt_of_cell? _ _ hwz16_2; first | rwa [add_block] at this | exact this) GWz2.out))) _).trans (hHeld.2.2.2.2.2.2.2.2.2.2.2.2))))))))))⟩ (fun hHeld => ?_)
  clear hK K
  refine pv_ 9 (some 8) HT_ ?_
  refine done_ (done_of HT_.out (by kernel_rfl)) ?_
  try go_wp2
  refine bodyPost_ret (results_list (rs := [.tmp 6, .cell 7 50, .tmp 8]) rfl (by simp) (.tmp (.cell gbz2 50 #[.string tz3, .int .i64 tz4, .slice Ao15 tz5.length co15, .slice Ao16 tz8.length co16, .bool tz11] (0, 0) _ rfl (by (with_reducible repeat (first | refine blk_drewN ?_ _ | refine bkD ?_ | refine bkA ?_ _)); apply bp5; exact pk BKz2) Try.underlying50 rfl (by kernel_rfl) (.tmp .nil)))) rfl ?_
  exact ⟨_, _, by first | rfl | (simp <;> rfl) | (simp [*] <;> rfl), by (with_reducible repeat first | apply ra | apply rn | apply rd); exact Kd.R_mono (rf5 (Kd.R_types HO_z13002.out BKz2.out (by decide)) (fun _ hk => hk.2)) (fun _ hk => trivial), by (with_reducible repeat first | apply ra | apply rn | apply rd); exact Kd.R_mono (rf5 (Kd.R_types HO_z13003.out BKz2.out (by decide)) (fun _ hk => hk.2)) (fun _ hk => trivial), sC_ HB⟩
 rw [if_neg c39] at H
 have c39b0 : decide (x10_2 < (l0_3.length : Int)) = false := decide_eq_false c39
 clear c39
 by_cases c58 : (l0_3.length : Int) ≥ 2000
 ·rw [if_pos c58] at H
  have c58b0 : decide (2000 ≤ (l0_3.length : Int)) = true := decide_eq_true c58
  have c58b1 : decide (2000 ≤ l0_3.length) = true := decide_eq_true (by omega)
  clear c58
  simp only [Option.some.injEq, Prod.mk.injEq] at H
  obtain ⟨rfl, rfl, rfl, rfl, rfl, rfl, rfl⟩ := H
  have hnb59 := NBz1_z2.out
  have hnc59 := NBz2_z1.out
  have hnb60 := NBz1_z12.out
  have hnc60 := NBz12_z1.out
  obtain ⟨hcz61_0, hcz61_1, hcz61_2, hcz61_3, hcz61_4⟩ := bc5 BKz1
  obtain ⟨hfz61_0, hfz61_1, hfz61_2, hfz61_3, hfz61_4⟩ := bf5 BKz1
  try go_wp2
  have n0_ := am (Kd.R_drew HO_z13002.out)
  have n1_ := am (Kd.R_drew HO_z13003.out)
  have n2_ := am (bkD BKz1.out)
  have n3_ := am (bkD BKz2.out)
  have n4_ := am (bkD BKz12.out)
  have n5_ := am (below_drew1 HB.out)
  clear HO_z13002 HO_z13003 BKz1 BKz2 BKz12 HB; have HO_z13002 := n0_; have HO_z13003 := n1_; have BKz1 := n2_; have BKz2 := n3_; have BKz12 := n4_; have HB := n5_; clear n0_ n1_ n2_ n3_ n4_ n5_
  refine start_ (n := 4) (S := fun w' => w'.cell? ⟨gbz12, 0, none⟩ = some (.string tz3) ∧ w'.cell? ⟨gbz12, 1, none⟩ = some (.int .i64 tz4) ∧ w'.cell? ⟨gbz12, 2, none⟩ = some (.slice Ao15 tz5.length co15) ∧ w'.cell? ⟨gbz12, 3, none⟩ = some (.slice Ao16 tz8.length co16) ∧ w'.cell? ⟨gbz12, 4, none⟩ = some (.bool tz11)) (ds := []) #[false, false, false, false] (by kernel_rfl) rfl rfl (bc5 BKz12) (fun hHeld => ?_)
  generalize wr.drew = w62 at HO_z13002 HO_z13003 BKz1 BKz2 BKz12 HB hHeld ⊢
  refine pn_ 1 (some 6) rfl rfl (.inl ⟨by rfl, by intro w'; go_simp; with_reducible rfl⟩) (by simp only [Act.put, sa_, s0_, s1_, i64_w, i32_w]; rfl) ?_
  refine tn_ 0 (some 66) rfl rfl (.inl ⟨by rfl, by rintro w' ⟨s0, s1, s2, s3, s4⟩; go_simp; with_reducible rfl⟩) hHeld (by simp only [Act.put, sa_, s0_, s1_, i64_w, i32_w]; rfl) ?_
  refine one_ (i := 2) (N := none) #[true, true, true, false] rfl rfl (by kernel_rfl) (by decide) (fun K hK => ?_)
  have hs63 : w62.cell? ⟨gbz2, 0, none⟩ = some (.string xz3000_2) := (blk_cell BKz2.out 0).trans rfl
  have hfs63 := blk_frozen BKz2.out 0
  have := NBz1_z2.out
  have := NBz12_z2.out
  have := NBz2_z1.out
  have := NBz2_z12.out
  have hs64 : w62.cell? ⟨gbz2, 1, none⟩ = some (.int .i64 xz3001_2) := (blk_cell BKz2.out 1).trans rfl
  have hfs64 := blk_frozen BKz2.out 1
  have := NBz1_z2.out
  have := NBz12_z2.out
  have := NBz2_z1.out
  have := NBz2_z12.out
  have hs65 : w62.cell? ⟨gbz2, 2, none⟩ = some (.slice none 0 0) := (blk_cell BKz2.out 2).trans rfl
  have hfs65 := blk_frozen BKz2.out 2
  have := NBz1_z2.out
  have := NBz12_z2.out
  have := NBz2_z1.out
  have := NBz2_z12.out
  have hs66 : w62.cell? ⟨gbz2, 3, none⟩ = some (.slice none 0 0) := (blk_cell BKz2.out 3).trans rfl
  have hfs66 := blk_frozen BKz2.out 3
  have := NBz1_z2.out
  have := NBz12_z2.out
  have := NBz2_z1.out
  have := NBz2_z12.out
  have hs67 : w62.cell? ⟨gbz2, 4, none⟩ = some (.bool xz3004_2) := (blk_cell BKz2.out 4).trans rfl
  have hfs67 := blk_frozen BKz2.out 4
  have := NBz1_z2.out
  have := NBz12_z2.out
  have := NBz2_z1.out
  have := NBz2_z12.out
  refine skip_ (by rfl) rfl (by go_simp; rfl) ?_
  refine hK.out _ _ ⟨((cf5 NBz12_z2).trans (hHeld.1)), ((cf5 NBz12_z2).trans (hHeld.2.1)), ((cf5 NBz12_z2).trans (hHeld.2.2.1)), ((cf5 NBz12_z2).trans (hHeld.2.2.2.1)), ((cf5 NBz12_z2).trans (hHeld.2.2.2.2))⟩ (fun hHeld => ?_)
  clear hK K
  refine pn_ 3 (some 8) rfl rfl (.inl ⟨by rfl, by intro w'; go_simp; with_reducible rfl⟩) (by simp only [Act.put, sa_, s0_, s1_, i64_w, i32_w]; rfl) ?_
  refine done_ (by kernel_rfl) ?_
  try go_wp2
  refine bodyPost_ret (results_list (rs := [.tmp 6, .cell 7 50, .tmp 8]) rfl (by simp) (.tmp (.cell gbz2 50 #[.string tz3, .int .i64 tz4, .slice Ao15 tz5.length co15, .slice Ao16 tz8.length co16, .bool tz11] (0, 0) _ rfl (by (with_reducible repeat (first | refine blk_drewN ?_ _ | refine bkD ?_ | refine bkA ?_ _)); apply bp5; exact pk BKz2) Try.underlying50 rfl (by kernel_rfl) (.tmp .nil)))) rfl ?_
  exact ⟨_, _, by first | rfl | (simp <;> rfl) | (simp [*] <;> rfl), by (with_reducible repeat first | apply ra | apply rn | apply rd); exact Kd.R_mono (rf5 (Kd.R_types HO_z13002.out BKz2.out (by decide)) (fun _ hk => hk.2)) (fun _ hk => trivial), by (with_reducible repeat first | apply ra | apply rn | apply rd); exact Kd.R_mono (rf5 (Kd.R_types HO_z13003.out BKz2.out (by decide)) (fun _ hk => hk.2)) (fun _ hk => trivial), sC_ HB⟩
 rw [if_neg c58] at H
 have c58b0 : decide (2000 ≤ (l0_3.length : Int)) = false := decide_eq_false c58
 have c58b1 : decide (2000 ≤ l0_3.length) = false := decide_eq_false (by omega)
 clear c58
 replace H := ob_ H
 obtain ⟨⟨tz17, tz18, tz19, tz20⟩, A680, H⟩ := H
 replace H : (if tz20 = 0 then (if tz8.length < 2932031007402 then ((some (tz8 ++ [(⟨a1, a2, tz17⟩ : S74)] : List (S74))).bind fun yz22 => ((r8_clash.f k2 tz18 tz19 tz5 yz22 tz11).bind fun tz25 => (some (tz17, tz18, tz19, tz5, yz22, tz25, 0)))) else (none)) else (some ((⟨#[]⟩ : ByteArray), tz3, tz4, tz5, tz8, tz11, tz20))) = some (r1, r2, r3, r4, r5, r6, r7) := H
 have A68 := Aside0.mk A680
 clear A680
 by_cases c69 : tz20 = 0
 rotate_left
 ·rw [if_neg c69] at H
  have c69b0 : (tz20 == 0) = false := beq_eq_false_iff_ne.mpr c69
  have c69b1 : (tz20 != 0) = true := bne_iff_ne.mpr c69
  simp only [Option.some.injEq, Prod.mk.injEq] at H
  obtain ⟨rfl, rfl, rfl, rfl, rfl, rfl, rfl⟩ := H
  have hnb95 := NBz1_z2.out
  have hnc95 := NBz2_z1.out
  have hnb96 := NBz1_z12.out
  have hnc96 := NBz12_z1.out
  obtain ⟨hcz97_0, hcz97_1, hcz97_2, hcz97_3, hcz97_4⟩ := bc5 BKz1
  obtain ⟨hfz97_0, hfz97_1, hfz97_2, hfz97_3, hfz97_4⟩ := bf5 BKz1
  try go_wp2_with (first | ((with_reducible refine gate_callee (f := 22) rfl ?_); refine goesL_ (some 70) rfl rfl Try.func22 (by kernel_rfl) rfl #[.agg #[.string a0_0, .int .i64 a0_1], .int .i64 40] rfl (by (try simp only [List.map_toArray, List.map_cons, List.map_nil]) <;> rfl) ?_; (with_reducible refine (r7_Take.calls k2 a0_0 a0_1 40 tz17 tz18 tz19 tz20 _ A68.out).mono ?_); rintro e w98 ⟨rfl, hb⟩; refine ⟨_, rfl, ?_⟩; have n0_ := am (Kd.R_below (pr HO_z13002) hb); have n1_ := am (Kd.R_below (pr HO_z13003) hb); have n2_ := am (bkB (pk BKz1) hb); have n3_ := am (bkB (pk BKz2) hb); have n4_ := am (bkB (pk BKz12) hb); have n5_ := am (below_step (sC_ HB) hb); clear HO_z13002; clear HO_z13003; clear BKz1; clear BKz2; clear BKz12; clear HB; have HO_z13002 := n0_; have HO_z13003 := n1_; have BKz1 := n2_; have BKz2 := n3_; have BKz12 := n4_; have HB := n5_; clear n0_ n1_ n2_ n3_ n4_ n5_; (try clear hi)) | ((with_reducible refine gate_dst (N := 12) rfl ?_); (try (refine gate_guard (by rfl) ?_; dsimp only)); refine box_event ?hg (N := 12) ?hd (cs := #[.string (⟨#[]⟩ : ByteArray), .int .i64 0]) (t := 23) ?hr ?_; (case hd => rfl); (case hg => rfl); (case hr => first | (go_simp; done) | (go_simp; rfl)); intro gbz21 hg w99 hbox hb; have n0_ := am (Kd.R_below (pr HO_z13002) hb); have n1_ := am (Kd.R_below (pr HO_z13003) hb); have n2_ := am (bkB (pk BKz1) hb); have n3_ := am (bkB (pk BKz2) hb); have n4_ := am (bkB (pk BKz12) hb); have n5_ := am (below_step (sC_ HB) hb); have n6_ := am (hbox); have n7_ := ge_ hg (sC_ HB); have n8_ := ge_ hg (sC_ HB); have n9_ := nl_ hg BKz1; have n10_ := ng_ hg BKz1; have n11_ := nl_ hg BKz2; have n12_ := ng_ hg BKz2; have n13_ := nl_ hg BKz12; have n14_ := ng_ hg BKz12; clear HO_z13002; clear HO_z13003; clear BKz1; clear BKz2; clear BKz12; clear HB; have HO_z13002 := n0_; have HO_z13003 := n1_; have BKz1 := n2_; have BKz2 := n3_; have BKz12 := n4_; have HB := n5_; have BKz21 := n6_; have GWz21 := n7_; have GEz21 := n8_; have NBz1_z21 := n9_; have NBz21_z1 := n10_; have NBz2_z21 := n11_; have NBz21_z2 := n12_; have NBz12_z21 := n13_; have NBz21_z12 := n14_; clear n0_ n1_ n2_ n3_ n4_ n5_ n6_ n7_ n8_ n9_ n10_ n11_ n12_ n13_ n14_; clear hb hbox hg; have hnb100 := NBz21_z1.out; have hnc100 := NBz1_z21.out; have hnb101 := NBz21_z2.out; have hnc101 := NBz2_z21.out; have hnb102 := NBz21_z12.out; have hnc102 := NBz12_z21.out; obtain ⟨hcz103_0, hcz103_1⟩ := bc2 BKz21; obtain ⟨hfz103_0, hfz103_1⟩ := bf2 BKz21))
  have n0_ : Aside0 (Kd.R k72 72 ((w99.setCell ⟨gbz21, 0, none⟩ (.string tz18)).setCell ⟨gbz21, 1, none⟩ (.int .i64 tz19)) w.heap.size (fun _ => True) (.slice Ao15 tz5.length co15) tz5) := ⟨by (with_reducible repeat first | apply ra | apply rn | apply rd); exact Kd.R_mono (rf2 (Kd.R_types HO_z13002.out BKz21.out (by decide)) (fun _ hk => hk.2)) (fun _ hk => trivial)⟩
  have n1_ : Aside0 (Kd.R k74 74 ((w99.setCell ⟨gbz21, 0, none⟩ (.string tz18)).setCell ⟨gbz21, 1, none⟩ (.int .i64 tz19)) w.heap.size (fun _ => True) (.slice Ao16 tz8.length co16) tz8) := ⟨by (with_reducible repeat first | apply ra | apply rn | apply rd); exact Kd.R_mono (rf2 (Kd.R_types HO_z13003.out BKz21.out (by decide)) (fun _ hk => hk.2)) (fun _ hk => trivial)⟩
  have n2_ : Aside0 (((w99.setCell ⟨gbz21, 0, none⟩ (.string tz18)).setCell ⟨gbz21, 1, none⟩ (.int .i64 tz19)).heap[gbz1]? = some (.cells #[.string a0_0, .int .i64 a0_1, .slice A0_2 l0_2.length c0_2, .slice A0_3 l0_3.length c0_3, .bool a0_4] 50 (0, 0))) := ⟨by (with_reducible repeat (first | refine blk_drewN ?_ _ | refine bkD ?_ | refine bkA ?_ _)); refine blk_far ?_ NBz1_z21.out _; refine blk_far ?_ NBz1_z21.out _; (with_reducible repeat (first | refine blk_drewN ?_ _ | refine bkD ?_ | refine bkA ?_ _)); exact BKz1.out⟩
  have n3_ : Aside0 (((w99.setCell ⟨gbz21, 0, none⟩ (.string tz18)).setCell ⟨gbz21, 1, none⟩ (.int .i64 tz19)).heap[gbz2]? = some (.cells #[.string xz3000_2, .int .i64 xz3001_2, .slice none 0 0, .slice none 0 0, .bool xz3004_2] 50 (0, 0))) := ⟨by (with_reducible repeat (first | refine blk_drewN ?_ _ | refine bkD ?_ | refine bkA ?_ _)); refine blk_far ?_ NBz2_z21.out _; refine blk_far ?_ NBz2_z21.out _; (with_reducible repeat (first | refine blk_drewN ?_ _ | refine bkD ?_ | refine bkA ?_ _)); exact BKz2.out⟩
  have n4_ : Aside0 (((w99.setCell ⟨gbz21, 0, none⟩ (.string tz18)).setCell ⟨gbz21, 1, none⟩ (.int .i64 tz19)).heap[gbz12]? = some (.cells #[.string tz3, .int .i64 tz4, .slice Ao15 tz5.length co15, .slice Ao16 tz8.length co16, .bool tz11] 50 (0, 0))) := ⟨by (with_reducible repeat (first | refine blk_drewN ?_ _ | refine bkD ?_ | refine bkA ?_ _)); refine blk_far ?_ NBz12_z21.out _; refine blk_far ?_ NBz12_z21.out _; (with_reducible repeat (first | refine blk_drewN ?_ _ | refine bkD ?_ | refine bkA ?_ _)); exact BKz12.out⟩
  have n5_ : Aside0 (((w99.setCell ⟨gbz21, 0, none⟩ (.string tz18)).setCell ⟨gbz21, 1, none⟩ (.int .i64 tz19)).heap[gbz21]? = some (.cells #[.string tz18, .int .i64 tz19] 23 (0, 0))) := ⟨by (with_reducible repeat (first | refine blk_drewN ?_ _ | refine bkD ?_ | refine bkA ?_ _)); apply bp2; (with_reducible repeat (first | refine blk_drewN ?_ _ | refine bkD ?_ | refine bkA ?_ _)); exact BKz21.out⟩
  have n6_ : Aside0 (Below w.heap.size w ((w99.setCell ⟨gbz21, 0, none⟩ (.string tz18)).setCell ⟨gbz21, 1, none⟩ (.int .i64 tz19))) := (sB_ HB)
  (try clear HO_z13002); (try clear HO_z13003); (try clear BKz1); (try clear BKz2); (try clear BKz12); (try clear BKz21); (try clear HB)
  generalize ((w99.setCell ⟨gbz21, 0, none⟩ (.string tz18)).setCell ⟨gbz21, 1, none⟩ (.int .i64 tz19)) = w104 at n0_ n1_ n2_ n3_ n4_ n5_ n6_ ⊢
  have HO_z13002 := n0_; have HO_z13003 := n1_; have BKz1 := n2_; have BKz2 := n3_; have BKz12 := n4_; have BKz21 := n5_; have HB := n6_; clear n0_ n1_ n2_ n3_ n4_ n5_ n6_
  have n0_ := am (Kd.R_drew HO_z13002.out)
  have n1_ := am (Kd.R_drew HO_z13003.out)
  have n2_ := am (bkD BKz1.out)
  have n3_ := am (bkD BKz2.out)
  have n4_ := am (bkD BKz12.out)
  have n5_ := am (bkD BKz21.out)
  have n6_ := am (below_drew1 HB.out)
  clear HO_z13002 HO_z13003 BKz1 BKz2 BKz12 BKz21 HB; have HO_z13002 := n0_; have HO_z13003 := n1_; have BKz1 := n2_; have BKz2 := n3_; have BKz12 := n4_; have BKz21 := n5_; have HB := n6_; clear n0_ n1_ n2_ n3_ n4_ n5_ n6_
  refine start_ (n := 5) (S := fun w' => w'.cell? ⟨gbz12, 0, none⟩ = some (.string tz3) ∧ w'.cell? ⟨gbz12, 1, none⟩ = some (.int .i64 tz4) ∧ w'.cell? ⟨gbz12, 2, none⟩ = some (.slice Ao15 tz5.length co15) ∧ w'.cell? ⟨gbz12, 3, none⟩ = some (.slice Ao16 tz8.length co16) ∧ w'.cell? ⟨gbz12, 4, none⟩ = some (.bool tz11)) (ds := []) #[false, false, false, false, false] (by kernel_rfl) rfl rfl (bc5 BKz12) (fun hHeld => ?_)
  generalize w104.drew = w105 at HO_z13002 HO_z13003 BKz1 BKz2 BKz12 BKz21 HB hHeld ⊢
  refine pn_ 1 (some 77) rfl rfl (.inl ⟨by rfl, by intro w'; go_simp; with_reducible rfl⟩) (by simp only [Act.put, sa_, s0_, s1_, i64_w, i32_w]; rfl) ?_
  refine pn_ 2 (some 6) rfl rfl (.inl ⟨by rfl, by intro w'; go_simp; with_reducible rfl⟩) (by simp only [Act.put, sa_, s0_, s1_, i64_w, i32_w]; rfl) ?_
  refine tn_ 0 (some 76) rfl rfl (.inl ⟨by rfl, by rintro w' ⟨s0, s1, s2, s3, s4⟩; go_simp; with_reducible rfl⟩) hHeld (by simp only [Act.put, sa_, s0_, s1_, i64_w, i32_w]; rfl) ?_
  refine one_ (i := 3) (N := none) #[true, true, true, true, false] rfl rfl (by kernel_rfl) (by decide) (fun K hK => ?_)
  have hs106 : w105.cell? ⟨gbz2, 0, none⟩ = some (.string xz3000_2) := (blk_cell BKz2.out 0).trans rfl
  have hfs106 := blk_frozen BKz2.out 0
  have := NBz1_z2.out
  have := NBz12_z2.out
  have := NBz21_z2.out
  have := NBz2_z1.out
  have := NBz2_z12.out
  have := NBz2_z21.out
  have hs107 : w105.cell? ⟨gbz2, 1, none⟩ = some (.int .i64 xz3001_2) := (blk_cell BKz2.out 1).trans rfl
  have hfs107 := blk_frozen BKz2.out 1
  have := NBz1_z2.out
  have := NBz12_z2.out
  have := NBz21_z2.out
  have := NBz2_z1.out
  have := NBz2_z12.out
  have := NBz2_z21.out
  have hs108 : w105.cell? ⟨gbz2, 2, none⟩ = some (.slice none 0 0) := (blk_cell BKz2.out 2).trans rfl
  have hfs108 := blk_frozen BKz2.out 2
  have := NBz1_z2.out
  have := NBz12_z2.out
  have := NBz21_z2.out
  have := NBz2_z1.out
  have := NBz2_z12.out
  have := NBz2_z21.out
  have hs109 : w105.cell? ⟨gbz2, 3, none⟩ = some (.slice none 0 0) := (blk_cell BKz2.out 3).trans rfl
  have hfs109 := blk_frozen BKz2.out 3
  have := NBz1_z2.out
  have := NBz12_z2.out
  have := NBz21_z2.out
  have := NBz2_z1.out
  have := NBz2_z12.out
  have := NBz2_z21.out
  have hs110 : w105.cell? ⟨gbz2, 4, none⟩ = some (.bool xz3004_2) := (blk_cell BKz2.out 4).trans rfl
  have hfs110 := blk_frozen BKz2.out 4
  have := NBz1_z2.out
  have := NBz12_z2.out
  have := NBz21_z2.out
  have := NBz2_z1.out
  have := NBz2_z12.out
  have := NBz2_z21.out
  refine skip_ (by rfl) rfl (by go_simp; rfl) ?_
  refine hK.out _ _ ⟨((cf5 NBz12_z2).trans (hHeld.1)), ((cf5 NBz12_z2).trans (hHeld.2.1)), ((cf5 NBz12_z2).trans (hHeld.2.2.1)), ((cf5 NBz12_z2).trans (hHeld.2.2.2.1)), ((cf5 NBz12_z2).trans (hHeld.2.2.2.2))⟩ (fun hHeld => ?_)
  clear hK K
  refine pn_ 4 (some 8) rfl rfl (.inl ⟨by rfl, by intro w'; go_simp; with_reducible rfl⟩) (by simp only [Act.put, sa_, s0_, s1_, i64_w, i32_w]; rfl) ?_
  refine done_ (by kernel_rfl) ?_
  try go_wp2
  refine bodyPost_ret (results_list (rs := [.tmp 6, .cell 7 50, .tmp 8]) rfl (by simp) (.tmp (.cell gbz2 50 #[.string tz3, .int .i64 tz4, .slice Ao15 tz5.length co15, .slice Ao16 tz8.length co16, .bool tz11] (0, 0) _ rfl (by (with_reducible repeat (first | refine blk_drewN ?_ _ | refine bkD ?_ | refine bkA ?_ _)); apply bp5; exact pk BKz2) Try.underlying50 rfl (by kernel_rfl) (.tmp .nil)))) rfl ?_
  exact ⟨_, _, by first | rfl | (simp <;> rfl) | (simp [*] <;> rfl), by (with_reducible repeat first | apply ra | apply rn | apply rd); exact Kd.R_mono (rf5 (Kd.R_types HO_z13002.out BKz2.out (by decide)) (fun _ hk => hk.2)) (fun _ hk => trivial), by (with_reducible repeat first | apply ra | apply rn | apply rd); exact Kd.R_mono (rf5 (Kd.R_types HO_z13003.out BKz2.out (by decide)) (fun _ hk => hk.2)) (fun _ hk => trivial), sC_ HB⟩
 rw [if_pos c69] at H
 have c69b0 : (tz20 == 0) = true := beq_iff_eq.mpr c69
 have c69b1 : (tz20 != 0) = false := bne_eq_false_iff_eq.mpr c69
 clear c69
 by_cases c70 : tz8.length < 2932031007402
 rotate_left
 ·rw [if_neg c70] at H
  exact absurd H (by simp)
 rw [if_pos c70] at H
 have LMc70 := Aside0.mk c70
 clear c70
 obtain ⟨yz22, hyz22⟩ : ∃ y_ : List (S74), y_ = (tz8 ++ [(⟨a1, a2, tz17⟩ : S74)]) := ⟨_, rfl⟩
 replace H : ((r8_clash.f k2 tz18 tz19 tz5 yz22 tz11).bind fun tz25 => (some (tz17, tz18, tz19, tz5, yz22, tz25, 0))) = some (r1, r2, r3, r4, r5, r6, r7) := by first | (rw [hyz22]; with_reducible exact H) | (have H2_ := (Option.bind_some _ _).symm.trans H; rw [hyz22]; with_reducible exact H2_) | (have H2_ := (Option.bind_some _ _).symm.trans H; with_reducible exact H2_) | with_reducible exact H | (rw [hyz22]; exact H) | exact H
 have Nyz22 := am hyz22
 clear hyz22
 replace H := ob_ H
 obtain ⟨tz25, A710, H⟩ := H
 replace H : (some (tz17, tz18, tz19, tz5, yz22, tz25, 0)) = some (r1, r2, r3, r4, r5, r6, r7) := H
 have A71 := Aside0.mk A710
 clear A710
 simp only [Option.some.injEq, Prod.mk.injEq] at H
 obtain ⟨rfl, rfl, rfl, rfl, rfl, rfl, rfl⟩ := H
 have hnb72 := NBz1_z2.out
 have hnc72 := NBz2_z1.out
 have hnb73 := NBz1_z12.out
 have hnc73 := NBz12_z1.out
 obtain ⟨hcz74_0, hcz74_1, hcz74_2, hcz74_3, hcz74_4⟩ := bc5 BKz1
 obtain ⟨hfz74_0, hfz74_1, hfz74_2, hfz74_3, hfz74_4⟩ := bf5 BKz1
 try go_wp2_with (first | ((with_reducible refine gate_callee (f := 22) rfl ?_); refine goesL_ (some 70) rfl rfl Try.func22 (by kernel_rfl) rfl #[.agg #[.string a0_0, .int .i64 a0_1], .int .i64 40] rfl (by (try simp only [List.map_toArray, List.map_cons, List.map_nil]) <;> rfl) ?_; (with_reducible refine (r7_Take.calls k2 a0_0 a0_1 40 tz17 tz18 tz19 tz20 _ A68.out).mono ?_); rintro e w75 ⟨rfl, hb⟩; refine ⟨_, rfl, ?_⟩; have n0_ := am (Kd.R_below (pr HO_z13002) hb); have n1_ := am (Kd.R_below (pr HO_z13003) hb); have n2_ := am (bkB (pk BKz1) hb); have n3_ := am (bkB (pk BKz2) hb); have n4_ := am (bkB (pk BKz12) hb); have n5_ := am (below_step (sC_ HB) hb); clear HO_z13002; clear HO_z13003; clear BKz1; clear BKz2; clear BKz12; clear HB; have HO_z13002 := n0_; have HO_z13003 := n1_; have BKz1 := n2_; have BKz2 := n3_; have BKz12 := n4_; have HB := n5_; clear n0_ n1_ n2_ n3_ n4_ n5_; (try clear hi)) | ((with_reducible refine gate_dst (N := 12) rfl ?_); (try (refine gate_guard (by rfl) ?_; dsimp only)); refine box_event ?hg (N := 12) ?hd (cs := #[.string (⟨#[]⟩ : ByteArray), .int .i64 0]) (t := 23) ?hr ?_; (case hd => rfl); (case hg => rfl); (case hr => first | (go_simp; done) | (go_simp; rfl)); intro gbz21 hg w76 hbox hb; have n0_ := am (Kd.R_below (pr HO_z13002) hb); have n1_ := am (Kd.R_below (pr HO_z13003) hb); have n2_ := am (bkB (pk BKz1) hb); have n3_ := am (bkB (pk BKz2) hb); have n4_ := am (bkB (pk BKz12) hb); have n5_ := am (below_step (sC_ HB) hb); have n6_ := am (hbox); have n7_ := ge_ hg (sC_ HB); have n8_ := ge_ hg (sC_ HB); have n9_ := nl_ hg BKz1; have n10_ := ng_ hg BKz1; have n11_ := nl_ hg BKz2; have n12_ := ng_ hg BKz2; have n13_ := nl_ hg BKz12; have n14_ := ng_ hg BKz12; clear HO_z13002; clear HO_z13003; clear BKz1; clear BKz2; clear BKz12; clear HB; have HO_z13002 := n0_; have HO_z13003 := n1_; have BKz1 := n2_; have BKz2 := n3_; have BKz12 := n4_; have HB := n5_; have BKz21 := n6_; have GWz21 := n7_; have GEz21 := n8_; have NBz1_z21 := n9_; have NBz21_z1 := n10_; have NBz2_z21 := n11_; have NBz21_z2 := n12_; have NBz12_z21 := n13_; have NBz21_z12 := n14_; clear n0_ n1_ n2_ n3_ n4_ n5_ n6_ n7_ n8_ n9_ n10_ n11_ n12_ n13_ n14_; clear hb hbox hg; have hnb77 := NBz21_z1.out; have hnc77 := NBz1_z21.out; have hnb78 := NBz21_z2.out; have hnc78 := NBz2_z21.out; have hnb79 := NBz21_z12.out; have hnc79 := NBz12_z21.out; obtain ⟨hcz80_0, hcz80_1⟩ := bc2 BKz21; obtain ⟨hfz80_0, hfz80_1⟩ := bf2 BKz21; have hnb81 := NBz12_z2.out; have hnc81 := NBz2_z12.out; obtain ⟨hcz82_0, hcz82_1, hcz82_2, hcz82_3, hcz82_4⟩ := bc5 BKz12; obtain ⟨hfz82_0, hfz82_1, hfz82_2, hfz82_3, hfz82_4⟩ := bf5 BKz12) | ((with_reducible refine gate_builtin (b := .append) (xs := #[.tmp 81, .tmp 86]) rfl ?_); (try (refine gate_guard (by rfl) ?_; dsimp only)); at_builtin; refine Kd.R_append k74 (w0 := w) w.heap.size rfl (.tmp 81) (.tmp 86) 48 74 (.agg #[(.string ⟨#[]⟩), (.string ⟨#[]⟩), (.string ⟨#[]⟩)]) 48 rfl Try.underlying48 info74 rfl (by decide) (by omega) (.slice Ao16 tz8.length co16) tz8 (⟨a1, a2, tz17⟩ : S74) [.string a1, .string a2, .string tz17] (fun _ => True) (fun _ => False) rfl (by first | (go_simp; done) | (go_simp; rfl)) ?aP (fun _ hk => hk.elim) ?aF ?aO ?aB ?aS ?aL ?_; (case aP => exact k74_mkM _ _ _ (⟨a1, a2, tz17⟩ : S74)); (case aB => exact (sC_ HB)); (case aF => exact (fun _ _ => trivial)); (case aO => exact (by (with_reducible repeat first | apply ra | apply rn | apply rd); exact Kd.R_mono (rf2 (rf2 (Kd.R_types (Kd.R_types HO_z13003.out BKz21.out (by decide)) BKz12.out (by decide)) (fun _ hk => hk.1.2)) (fun _ hk => hk.2)) (fun _ hk => trivial))); (case aS => exact (below_size (sC_ HB))); (case aL => have := LMc70.out; omega); intro vz23 w83 ho hb hg hat; rw [← Nyz22.out] at ho; have n0_ := am (Kd.R_over' (by (with_reducible repeat first | apply ra | apply rn | apply rd); exact (Kd.R_mono (Kd.R_mono (rf2 (rf2 (Kd.R_types (Kd.R_types HO_z13002.out BKz21.out (by decide)) BKz12.out (by decide)) (fun _ hk => hk.1.2)) (fun _ hk => hk.2)) (fun _ h_ => h_.1)) (fun _ h_ => h_.1))) (Kd.R_typed (by (with_reducible repeat first | apply ra | apply rn | apply rd); exact (Kd.R_mono (Kd.R_mono (rf2 (rf2 (Kd.R_types (Kd.R_types HO_z13003.out BKz21.out (by decide)) BKz12.out (by decide)) (fun _ hk => hk.1.2)) (fun _ hk => hk.2)) (fun _ h_ => h_.1)) (fun _ h_ => h_.1)))) (by decide) hg); have n1_ := am (blk_grown (g := gbz1) (o := .cells #[.string a0_0, .int .i64 a0_1, .slice A0_2 l0_2.length c0_2, .slice A0_3 l0_3.length c0_3, .bool a0_4] 50 (0, 0)) (by (with_reducible repeat (first | refine blk_drewN ?_ _ | refine bkD ?_ | refine bkA ?_ _)); refine blk_far ?_ NBz1_z12.out _; refine blk_far ?_ NBz1_z12.out _; refine blk_far ?_ NBz1_z21.out _; refine blk_far ?_ NBz1_z21.out _; exact pk BKz1) hg (Kd.R_ne HO_z13003.out BKz1.out (by decide))); have n2_ := am (blk_grown (g := gbz2) (o := .cells #[.string xz3000_2, .int .i64 xz3001_2, .slice none 0 0, .slice none 0 0, .bool xz3004_2] 50 (0, 0)) (by (with_reducible repeat (first | refine blk_drewN ?_ _ | refine bkD ?_ | refine bkA ?_ _)); refine blk_far ?_ NBz2_z12.out _; refine blk_far ?_ NBz2_z12.out _; refine blk_far ?_ NBz2_z21.out _; refine blk_far ?_ NBz2_z21.out _; exact pk BKz2) hg (Kd.R_ne HO_z13003.out BKz2.out (by decide))); have n3_ := am (blk_grown (g := gbz12) (o := .cells #[.string tz18, .int .i64 tz19, .slice Ao15 tz5.length co15, .slice Ao16 tz8.length co16, .bool tz11] 50 (0, 0)) (by (with_reducible repeat (first | refine blk_drewN ?_ _ | refine bkD ?_ | refine bkA ?_ _)); refine blk_put (cs := #[.string tz18, .int .i64 tz4, .slice Ao15 tz5.length co15, .slice Ao16 tz8.length co16, .bool tz11]) ?_ 1 _ rfl; refine blk_put (cs := #[.string tz3, .int .i64 tz4, .slice Ao15 tz5.length co15, .slice Ao16 tz8.length co16, .bool tz11]) ?_ 0 _ rfl; refine blk_far ?_ NBz12_z21.out _; refine blk_far ?_ NBz12_z21.out _; exact pk BKz12) hg (Kd.R_ne HO_z13003.out BKz12.out (by decide))); have n4_ := am (blk_grown (g := gbz21) (o := .cells #[.string tz18, .int .i64 tz19] 23 (0, 0)) (by (with_reducible repeat (first | refine blk_drewN ?_ _ | refine bkD ?_ | refine bkA ?_ _)); refine blk_far ?_ NBz21_z12.out _; refine blk_far ?_ NBz21_z12.out _; apply bp2; exact pk BKz21) hg (Kd.R_ne HO_z13003.out BKz21.out (by decide))); have n5_ := am (hb); have n6_ := am (ho); clear HO_z13002; clear BKz1; clear BKz2; clear BKz12; clear BKz21; clear HB; clear HO_z13003; have HO_z13002 := n0_; have BKz1 := n1_; have BKz2 := n2_; have BKz12 := n3_; have BKz21 := n4_; have HB := n5_; have HOz24 := n6_; clear n0_ n1_ n2_ n3_ n4_ n5_ n6_; clear ho hb hg hat; obtain ⟨Ao84, co84, eo84⟩ := Kd.R_slice HOz24.out; subst eo84; obtain ⟨hcz85_0, hcz85_1, hcz85_2, hcz85_3, hcz85_4⟩ := bc5 BKz12; obtain ⟨hfz85_0, hfz85_1, hfz85_2, hfz85_3, hfz85_4⟩ := bf5 BKz12) | ((with_reducible refine gate_callee (f := 54) rfl ?_); refine goesL_ (some 90) rfl rfl Try.func54 (by kernel_rfl) rfl #[.agg #[.string tz18, .int .i64 tz19, .slice Ao15 tz5.length co15, .slice Ao84 yz22.length co84, .bool tz11]] rfl (by (try simp only [List.map_toArray, List.map_cons, List.map_nil]) <;> rfl) ?_; (with_reducible refine (r8_clash.calls k2 tz18 tz19 _ _ tz5 _ _ yz22 tz11 tz25 _ ?side1 ?side2 ?side3 ?side4 A71.out).mono ?_); (case side1 => refine (Kd.R_reads' (e := 72) (base := w.heap.size) (ok := fun k_ => True) (n := tz5.length) (c := co15) ?_).2.2; exact (by (with_reducible repeat first | apply ra | apply rn | apply rd); exact (Kd.R_mono (Kd.R_far (p := ⟨gbz12, 3, none⟩) (Kd.R_types HO_z13002.out BKz12.out (by decide)) (fun _ hk => hk.2) (.slice Ao84 yz22.length co84)) (fun _ h_ => h_.1)))); (case side2 => exact (Kd.R_reads' HO_z13002.out).2.1); (case side3 => refine (Kd.R_reads' (e := 74) (base := w.heap.size) (ok := fun k_ => True) (n := yz22.length) (c := co84) ?_).2.2; exact (by (with_reducible repeat first | apply ra | apply rn | apply rd); exact (Kd.R_mono (Kd.R_far (p := ⟨gbz12, 3, none⟩) (Kd.R_types HOz24.out BKz12.out (by decide)) (fun _ hk => hk.2) (.slice Ao84 yz22.length co84)) (fun _ h_ => h_.1)))); (case side4 => exact (Kd.R_reads' HOz24.out).2.1); rintro e w86 ⟨rfl, hb⟩; refine ⟨_, rfl, ?_⟩; have n0_ := am (Kd.R_below (by (with_reducible repeat first | apply ra | apply rn | apply rd); exact (Kd.R_mono (Kd.R_far (p := ⟨gbz12, 3, none⟩) (Kd.R_types HO_z13002.out BKz12.out (by decide)) (fun _ hk => hk.2) (.slice Ao84 yz22.length co84)) (fun _ h_ => h_.1))) hb); have n1_ := am (Kd.R_below (by (with_reducible repeat first | apply ra | apply rn | apply rd); exact (Kd.R_mono (Kd.R_far (p := ⟨gbz12, 3, none⟩) (Kd.R_types HOz24.out BKz12.out (by decide)) (fun _ hk => hk.2) (.slice Ao84 yz22.length co84)) (fun _ h_ => h_.1))) hb); have n2_ := am (bkB (g := gbz1) (o := .cells #[.string a0_0, .int .i64 a0_1, .slice A0_2 l0_2.length c0_2, .slice A0_3 l0_3.length c0_3, .bool a0_4] 50 (0, 0)) (by (with_reducible repeat (first | refine blk_drewN ?_ _ | refine bkD ?_ | refine bkA ?_ _)); refine blk_far ?_ NBz1_z12.out _; exact pk BKz1) hb); have n3_ := am (bkB (g := gbz2) (o := .cells #[.string xz3000_2, .int .i64 xz3001_2, .slice none 0 0, .slice none 0 0, .bool xz3004_2] 50 (0, 0)) (by (with_reducible repeat (first | refine blk_drewN ?_ _ | refine bkD ?_ | refine bkA ?_ _)); refine blk_far ?_ NBz2_z12.out _; exact pk BKz2) hb); have n4_ := am (bkB (g := gbz12) (o := .cells #[.string tz18, .int .i64 tz19, .slice Ao15 tz5.length co15, .slice Ao84 yz22.length co84, .bool tz11] 50 (0, 0)) (by (with_reducible repeat (first | refine blk_drewN ?_ _ | refine bkD ?_ | refine bkA ?_ _)); refine blk_put (cs := #[.string tz18, .int .i64 tz19, .slice Ao15 tz5.length co15, .slice Ao16 tz8.length co16, .bool tz11]) ?_ 3 _ rfl; exact pk BKz12) hb); have n5_ := am (bkB (g := gbz21) (o := .cells #[.string tz18, .int .i64 tz19] 23 (0, 0)) (by (with_reducible repeat (first | refine blk_drewN ?_ _ | refine bkD ?_ | refine bkA ?_ _)); refine blk_far ?_ NBz21_z12.out _; exact pk BKz21) hb); have n6_ := am (below_step (sC_ HB) hb); clear HO_z13002; clear HOz24; clear BKz1; clear BKz2; clear BKz12; clear BKz21; clear HB; have HO_z13002 := n0_; have HOz24 := n1_; have BKz1 := n2_; have BKz2 := n3_; have BKz12 := n4_; have BKz21 := n5_; have HB := n6_; clear n0_ n1_ n2_ n3_ n4_ n5_ n6_; obtain ⟨hcz87_0, hcz87_1, hcz87_2, hcz87_3, hcz87_4⟩ := bc5 BKz12; obtain ⟨hfz87_0, hfz87_1, hfz87_2, hfz87_3, hfz87_4⟩ := bf5 BKz12))
 have n0_ : Aside0 (Kd.R k72 72 (w86.setCell ⟨gbz12, 4, none⟩ (.bool tz25)) w.heap.size (fun _ => True) (.slice Ao15 tz5.length co15) tz5) := ⟨by (with_reducible repeat first | apply ra | apply rn | apply rd); exact Kd.R_mono (Kd.R_far (p := ⟨gbz12, 4, none⟩) (Kd.R_types HO_z13002.out BKz12.out (by decide)) (fun _ hk => hk.2) (.bool tz25)) (fun _ hk => trivial)⟩
 have n1_ : Aside0 (Kd.R k74 74 (w86.setCell ⟨gbz12, 4, none⟩ (.bool tz25)) w.heap.size (fun _ => True) (.slice Ao84 yz22.length co84) yz22) := ⟨by (with_reducible repeat first | apply ra | apply rn | apply rd); exact Kd.R_mono (Kd.R_far (p := ⟨gbz12, 4, none⟩) (Kd.R_types HOz24.out BKz12.out (by decide)) (fun _ hk => hk.2) (.bool tz25)) (fun _ hk => trivial)⟩
 have n2_ : Aside0 ((w86.setCell ⟨gbz12, 4, none⟩ (.bool tz25)).heap[gbz1]? = some (.cells #[.string a0_0, .int .i64 a0_1, .slice A0_2 l0_2.length c0_2, .slice A0_3 l0_3.length c0_3, .bool a0_4] 50 (0, 0))) := ⟨by (with_reducible repeat (first | refine blk_drewN ?_ _ | refine bkD ?_ | refine bkA ?_ _)); refine blk_far ?_ NBz1_z12.out _; (with_reducible repeat (first | refine blk_drewN ?_ _ | refine bkD ?_ | refine bkA ?_ _)); exact BKz1.out⟩
 have n3_ : Aside0 ((w86.setCell ⟨gbz12, 4, none⟩ (.bool tz25)).heap[gbz2]? = some (.cells #[.string xz3000_2, .int .i64 xz3001_2, .slice none 0 0, .slice none 0 0, .bool xz3004_2] 50 (0, 0))) := ⟨by (with_reducible repeat (first | refine blk_drewN ?_ _ | refine bkD ?_ | refine bkA ?_ _)); refine blk_far ?_ NBz2_z12.out _; (with_reducible repeat (first | refine blk_drewN ?_ _ | refine bkD ?_ | refine bkA ?_ _)); exact BKz2.out⟩
 have n4_ : Aside0 ((w86.setCell ⟨gbz12, 4, none⟩ (.bool tz25)).heap[gbz12]? = some (.cells #[.string tz18, .int .i64 tz19, .slice Ao15 tz5.length co15, .slice Ao84 yz22.length co84, .bool tz25] 50 (0, 0))) := ⟨by (with_reducible repeat (first | refine blk_drewN ?_ _ | refine bkD ?_ | refine bkA ?_ _)); refine blk_put (cs := #[.string tz18, .int .i64 tz19, .slice Ao15 tz5.length co15, .slice Ao84 yz22.length co84, .bool tz11]) ?_ 4 _ rfl; (with_reducible repeat (first | refine blk_drewN ?_ _ | refine bkD ?_ | refine bkA ?_ _)); exact BKz12.out⟩
 have n5_ : Aside0 ((w86.setCell ⟨gbz12, 4, none⟩ (.bool tz25)).heap[gbz21]? = some (.cells #[.string tz18, .int .i64 tz19] 23 (0, 0))) := ⟨by (with_reducible repeat (first | refine blk_drewN ?_ _ | refine bkD ?_ | refine bkA ?_ _)); refine blk_far ?_ NBz21_z12.out _; (with_reducible repeat (first | refine blk_drewN ?_ _ | refine bkD ?_ | refine bkA ?_ _)); exact BKz21.out⟩
 have n6_ : Aside0 (Below w.heap.size w (w86.setCell ⟨gbz12, 4, none⟩ (.bool tz25))) := (sB_ HB)
 (try clear HO_z13002); (try clear HOz24); (try clear BKz1); (try clear BKz2); (try clear BKz12); (try clear BKz21); (try clear HB)
 generalize (w86.setCell ⟨gbz12, 4, none⟩ (.bool tz25)) = w88 at n0_ n1_ n2_ n3_ n4_ n5_ n6_ ⊢
 have HO_z13002 := n0_; have HOz24 := n1_; have BKz1 := n2_; have BKz2 := n3_; have BKz12 := n4_; have BKz21 := n5_; have HB := n6_; clear n0_ n1_ n2_ n3_ n4_ n5_ n6_
 have n0_ := am (Kd.R_drew HO_z13002.out)
 have n1_ := am (Kd.R_drew HOz24.out)
 have n2_ := am (bkD BKz1.out)
 have n3_ := am (bkD BKz2.out)
 have n4_ := am (bkD BKz12.out)
 have n5_ := am (bkD BKz21.out)
 have n6_ := am (below_drew1 HB.out)
 clear HO_z13002 HOz24 BKz1 BKz2 BKz12 BKz21 HB; have HO_z13002 := n0_; have HOz24 := n1_; have BKz1 := n2_; have BKz2 := n3_; have BKz12 := n4_; have BKz21 := n5_; have HB := n6_; clear n0_ n1_ n2_ n3_ n4_ n5_ n6_
 refine start_ (n := 5) (S := fun w' => w'.cell? ⟨gbz12, 0, none⟩ = some (.string tz18) ∧ w'.cell? ⟨gbz12, 1, none⟩ = some (.int .i64 tz19) ∧ w'.cell? ⟨gbz12, 2, none⟩ = some (.slice Ao15 tz5.length co15) ∧ w'.cell? ⟨gbz12, 3, none⟩ = some (.slice Ao84 yz22.length co84) ∧ w'.cell? ⟨gbz12, 4, none⟩ = some (.bool tz25)) (ds := []) #[false, false, false, false, false] (by kernel_rfl) rfl rfl (bc5 BKz12) (fun hHeld => ?_)
 generalize w88.drew = w89 at HO_z13002 HOz24 BKz1 BKz2 BKz12 BKz21 HB hHeld ⊢
 refine pn_ 0 (some 92) rfl rfl (.inl ⟨by rfl, by intro w'; go_simp; with_reducible rfl⟩) (by simp only [Act.put, sa_, s0_, s1_, i64_w, i32_w]; rfl) ?_
 refine pn_ 2 (some 6) rfl rfl (.inl ⟨by rfl, by intro w'; go_simp; with_reducible rfl⟩) (by simp only [Act.put, sa_, s0_, s1_, i64_w, i32_w]; rfl) ?_
 refine tn_ 1 (some 93) rfl rfl (.inl ⟨by rfl, by rintro w' ⟨s0, s1, s2, s3, s4⟩; go_simp; with_reducible rfl⟩) hHeld (by simp only [Act.put, sa_, s0_, s1_, i64_w, i32_w]; rfl) ?_
 refine one_ (i := 3) (N := none) #[true, true, true, true, false] rfl rfl (by kernel_rfl) (by decide) (fun K hK => ?_)
 have hs90 : w89.cell? ⟨gbz2, 0, none⟩ = some (.string xz3000_2) := (blk_cell BKz2.out 0).trans rfl
 have hfs90 := blk_frozen BKz2.out 0
 have := NBz1_z2.out
 have := NBz12_z2.out
 have := NBz21_z2.out
 have := NBz2_z1.out
 have := NBz2_z12.out
 have := NBz2_z21.out
 have hs91 : w89.cell? ⟨gbz2, 1, none⟩ = some (.int .i64 xz3001_2) := (blk_cell BKz2.out 1).trans rfl
 have hfs91 := blk_frozen BKz2.out 1
 have := NBz1_z2.out
 have := NBz12_z2.out
 have := NBz21_z2.out
 have := NBz2_z1.out
 have := NBz2_z12.out
 have := NBz2_z21.out
 have hs92 : w89.cell? ⟨gbz2, 2, none⟩ = some (.slice none 0 0) := (blk_cell BKz2.out 2).trans rfl
 have hfs92 := blk_frozen BKz2.out 2
 have := NBz1_z2.out
 have := NBz12_z2.out
 have := NBz21_z2.out
 have := NBz2_z1.out
 have := NBz2_z12.out
 have := NBz2_z21.out
 have hs93 : w89.cell? ⟨gbz2, 3, none⟩ = some (.slice none 0 0) := (blk_cell BKz2.out 3).trans rfl
 have hfs93 := blk_frozen BKz2.out 3
 have := NBz1_z2.out
 have := NBz12_z2.out
 have := NBz21_z2.out
 have := NBz2_z1.out
 have := NBz2_z12.out
 have := NBz2_z21.out
 have hs94 : w89.cell? ⟨gbz2, 4, none⟩ = some (.bool xz3004_2) := (blk_cell BKz2.out 4).trans rfl
 have hfs94 := blk_frozen BKz2.out 4
 have := NBz1_z2.out
 have := NBz12_z2.out
 have := NBz21_z2.out
 have := NBz2_z1.out
 have := NBz2_z12.out
 have := NBz2_z21.out
 refine skip_ (by rfl) rfl (by go_simp; rfl) ?_
 refine hK.out _ _ ⟨((cf5 NBz12_z2).trans (hHeld.1)), ((cf5 NBz12_z2).trans (hHeld.2.1)), ((cf5 NBz12_z2).trans (hHeld.2.2.1)), ((cf5 NBz12_z2).trans (hHeld.2.2.2.1)), ((cf5 NBz12_z2).trans (hHeld.2.2.2.2))⟩ (fun hHeld => ?_)
 clear hK K
 refine pn_ 4 (some 8) rfl rfl (.inl ⟨by rfl, by intro w'; go_simp; with_reducible rfl⟩) (by simp only [Act.put, sa_, s0_, s1_, i64_w, i32_w]; rfl) ?_
 refine done_ (by kernel_rfl) ?_
 try go_wp2
 refine bodyPost_ret (results_list (rs := [.tmp 6, .cell 7 50, .tmp 8]) rfl (by simp) (.tmp (.cell gbz2 50 #[.string tz18, .int .i64 tz19, .slice Ao15 tz5.length co15, .slice Ao84 yz22.length co84, .bool tz25] (0, 0) _ rfl (by (with_reducible repeat (first | refine blk_drewN ?_ _ | refine bkD ?_ | refine bkA ?_ _)); apply bp5; exact pk BKz2) Try.underlying50 rfl (by kernel_rfl) (.tmp .nil)))) rfl ?_
 exact ⟨_, _, by first | rfl | (simp <;> rfl) | (simp [*] <;> rfl), by (with_reducible repeat first | apply ra | apply rn | apply rd); exact Kd.R_mono (rf5 (Kd.R_types HO_z13002.out BKz2.out (by decide)) (fun _ hk => hk.2)) (fun _ hk => trivial), by (with_reducible repeat first | apply ra | apply rn | apply rd); exact Kd.R_mono (rf5 (Kd.R_types HOz24.out BKz2.out (by decide)) (fun _ hk => hk.2)) (fun _ hk => trivial), sC_ HB⟩
end Go.Proofs.Ytmkncddbecmlpaa.Pr
end
section
set_option linter.unusedVariables false
namespace Go.Proofs.Ytmkncddbecmlpaa.Pr
open Go.RowKit Go.Proofs.YtmkncddbecmlpaaW.PrintWords Go.Proofs.YtmkncddbecmlpaaW.PrintLast Go.Proofs.YtmkncddbecmlpaaW.PrintMore
structure Inv8 (i : Nat) (b : ByteArray) (a : Int) (ns : List S72) (cs : List S74) (cl : Bool) : Prop where
  right : RightS b a ns cs cl
  size : b.size = 2000
  taken : a = 16 * (ns.length : Int) + 40 * (cs.length : Int)
  many : ns.length + cs.length ≤ i
theorem Inv8.start {b : ByteArray} (hb : b.size = 2000) : Inv8 0 b 0 [] [] false :=
  ⟨new_right (rightB_iff.2 ⟨by omega, by omega, by omega⟩), hb, by simp, by simp⟩
section
variable {i : Nat} {b : ByteArray} {a : Int} {ns : List S72} {cs : List S74} {cl : Bool}
theorem Inv8.more (h : Inv8 i b a ns cs cl) {j : Nat} (hj : i ≤ j) : Inv8 j b a ns cs cl := ⟨h.right, h.size, h.taken, by have := h.many; omega⟩
theorem label_step (h : Inv8 i b a ns cs cl) (hi : i < 15) {t : ByteArray} (ht : t.size ≤ 100) :
    ∃ s a' ns' cl', (∀ k, ideal_Label.f (k + 2) b a ns cs cl t = some (s, b, a', ns', cs, cl', 0)) ∧ Inv8 (i + 1) b a' ns' cs cl' ∧ (⟨t, s⟩ : S72) ∈ ns' ∧ (∀ n ∈ ns, n ∈ ns') ∧ (∀ n ∈ ns', n ∈ ns ∨ n = ⟨t, s⟩) := by
  have hm := h.many
  have hs := h.size
  have htk := h.taken
  by_cases he : ∃ n ∈ ns, n.f0 = t
  · obtain ⟨n, hn, e⟩ := he
    exact ⟨n.f1, a, ns, cl, fun k => label_old h.right ht hn e (k + 1), h.more (by omega), by subst e; exact hn, fun _ h => h, fun _ h => .inl h⟩
  · have hnew : ∀ n ∈ ns, n.f0 ≠ t := fun n hn e => he ⟨n, hn, e⟩
    have hroom : a + 16 ≤ (b.size : Int) := by omega
    refine ⟨_, _, _, _, fun k => label_new h.right ht (by omega) hnew hroom k, ⟨h.right.name ht (by omega) hnew hroom, hs, by simp; omega, by simp; omega⟩, List.mem_append_right _ (List.mem_singleton.2 rfl), fun n hn => List.mem_append_left _ hn, fun n hn => ?_⟩
    rcases List.mem_append.1 hn with hn | hn
    · exact .inl hn
    · exact .inr (List.mem_singleton.1 hn)
theorem seal_step (h : Inv8 i b a ns cs cl) (hi : i < 15) {l t : ByteArray} (hl : l.size = 16) (ht : t.size = 24) :
    ∃ s a' cs' cl', (∀ k, ideal_Seal.f (k + 2) b a ns cs cl l t = some (s, b, a', ns, cs', cl', 0)) ∧ Inv8 (i + 1) b a' ns cs' cl' ∧ (⟨l, t, s⟩ : S74) ∈ cs' ∧ (∀ c ∈ cs, c ∈ cs') ∧ (∀ c ∈ cs', c ∈ cs ∨ c = ⟨l, t, s⟩) := by
  have hm := h.many
  have hs := h.size
  have htk := h.taken
  by_cases he : ∃ c ∈ cs, c.f0 = l ∧ c.f1 = t
  · obtain ⟨c, hc, e1, e2⟩ := he
    exact ⟨c.f2, a, cs, cl, fun k => seal_old h.right hl ht hc e1 e2 (k + 1), h.more (by omega), by subst e1; subst e2; exact hc, fun _ h => h, fun _ h => .inl h⟩
  · have hnew : ∀ c ∈ cs, ¬ (c.f0 = l ∧ c.f1 = t) := fun c hc e => he ⟨c, hc, e⟩
    have hroom : a + 40 ≤ (b.size : Int) := by omega
    refine ⟨_, _, _, _, fun k => seal_new h.right hl ht (by omega) hnew hroom k, ⟨h.right.cell hl ht (by omega) hnew hroom, hs, by simp; omega, by simp; omega⟩, List.mem_append_right _ (List.mem_singleton.2 rfl), fun n hn => List.mem_append_left _ hn, fun n hn => ?_⟩
    rcases List.mem_append.1 hn with hn | hn
    · exact .inl hn
    · exact .inr (List.mem_singleton.1 hn)
end
theorem tl_eq (x y : ByteArray) : x.toList = y.toList ↔ x = y := by
  have := str_eq x y
  by_cases h : x = y
  · simp [h]
  · simp only [h, decide_false, beq_eq_false_iff_ne] at this
    simp [h, this]
def memB {κ : Type} [DecidableEq κ] (x : κ) (l : List κ) : Bool := decide (x ∈ l)
theorem memB_snoc {κ : Type} [DecidableEq κ] (x y : κ) (l : List κ) : memB x (l ++ [y]) = (memB x l || decide (x = y)) := by simp [memB]
theorem dup_snoc {κ : Type} [DecidableEq κ] (l : List κ) (x : κ) : dup (l ++ [x]) = (dup l || memB x l) := by
  unfold dup memB
  have : (l ++ [x]).Nodup ↔ l.Nodup ∧ x ∉ l := by
    rw [List.nodup_append]
    constructor
    · rintro ⟨h1, _, h2⟩
      exact ⟨h1, fun hx => h2 x hx x (by simp) rfl⟩
    · rintro ⟨h1, h2⟩
      exact ⟨h1, by simp, fun y hy z hz => by simp at hz; subst hz; rintro rfl; exact h2 hy⟩
  by_cases h1 : l.Nodup <;> by_cases h2 : x ∈ l <;> simp [this, h1, h2]
theorem take_snoc {α : Type} {l : List α} {j : Nat} (h : j < l.length) : l.take (j + 1) = l.take j ++ [l[j]] := by
  rw [List.take_add_one]
  simp [h]
end Go.Proofs.Ytmkncddbecmlpaa.Pr
end
section
set_option linter.unusedVariables false
namespace Go.Proofs.Ytmkncddbecmlpaa.Pr
open Go.RowKit Go.Proofs.YtmkncddbecmlpaaW.PrintWords Go.Proofs.YtmkncddbecmlpaaW.PrintLast Go.Proofs.YtmkncddbecmlpaaW.PrintMore
theorem memB_take {κ α : Type} [DecidableEq κ] {f : α → κ} {l : List α} {i j : Nat} (hj : j < i) (hl : j < l.length) : memB (f l[j]) ((l.take i).map f) = true := by
  unfold memB
  simp only [decide_eq_true_eq]
  refine List.mem_map_of_mem ?_
  rw [List.mem_take_iff_getElem]
  exact ⟨j, by omega, rfl⟩
theorem dup_take {κ α : Type} [DecidableEq κ] {f : α → κ} {l : List α} (i : Nat) (h : dup ((l.take i).map f) = true) : dup (l.map f) = true := by
  cases h2 : dup (l.map f)
  · have h3 := (dup_iff _).1 h2
    have : ((l.take i).map f).Nodup := by
      rw [List.map_take]
      exact h3.sublist (List.take_sublist i _)
    rw [(dup_iff _).2 this] at h
    cases h
  · rfl
theorem dup_step {κ α : Type} [DecidableEq κ] {f : α → κ} {l : List α} {i : Nat} (hi : i < l.length) (h : dup ((l.take i).map f) = false) : dup ((l.take (i + 1)).map f) = memB (f l[i]) ((l.take i).map f) := by
  rw [take_snoc hi, List.map_append, List.map_cons, List.map_nil, dup_snoc, h, Bool.false_or]
section
variable {b : ByteArray} {a : Int} {ns : List S72} {cs : List S74} {cl : Bool}
theorem rclash_l1 (hl : ns.length ≤ 20) {i : Nat} (hi : i < ns.length) : ∀ (d j k : Nat), j + d = i → d < k → memB ns[i].f1 ((ns.take j).map fun n : S72 => n.f1) = false →
    r8_clash.l1 k i j b a ns cs cl = if memB ns[i].f1 ((ns.take i).map fun n : S72 => n.f1) = true then some true else r8_clash.l0 (k - d - 1) ((i + 1 : Nat) : Int) b a ns cs cl := by
  intro d
  induction d with
  | zero =>
    intro j k h hk hm
    obtain ⟨k, rfl⟩ : ∃ m, k = m + 1 := ⟨k - 1, by omega⟩
    obtain rfl : j = i := by omega
    simp only [r8_clash.l1]
    rw [if_neg (by omega), if_neg (by rw [hm]; simp), show wrap64 ((j : Int) + 1) = ((j + 1 : Nat) : Int) from by unfold wrap64; omega]
    rfl
  | succ d ih =>
    intro j k h hk hm
    obtain ⟨k, rfl⟩ : ∃ m, k = m + 1 := ⟨k - 1, by omega⟩
    have hj : j < ns.length := by omega
    simp only [r8_clash.l1]
    rw [if_pos (show (j : Int) < (i : Int) by omega), if_pos (show (0 : Int) ≤ i by omega), if_pos (show (i : Int) < (ns.length : Int) by omega), if_pos (show (0 : Int) ≤ j by omega), if_pos (show (j : Int) < (ns.length : Int) by omega), rd72_get hi, rd72_get hj, show wrap64 ((j : Int) + 1) = ((j + 1 : Nat) : Int) from by unfold wrap64; omega]
    by_cases he : ns[i].f1 = ns[j].f1
    · rw [if_pos ((tl_eq _ _).2 he), if_pos (by rw [he]; exact memB_take (f := fun n : S72 => n.f1) (by omega) hj)]
    · rw [if_neg (fun e => he ((tl_eq _ _).1 e)), ih (j + 1) k (by omega) (by omega) (by rw [take_snoc hj, List.map_append, List.map_cons, List.map_nil, memB_snoc, hm]; simpa using he), show k + 1 - (d + 1) - 1 = k - d - 1 from by omega]
theorem rclash_l3 (hl : cs.length ≤ 20) {i : Nat} (hi : i < cs.length) : ∀ (d j k : Nat), j + d = i → d < k → memB (cs[i].f0, cs[i].f2) ((cs.take j).map fun c : S74 => (c.f0, c.f2)) = false →
    r8_clash.l3 k i j b a ns cs cl = if memB (cs[i].f0, cs[i].f2) ((cs.take i).map fun c : S74 => (c.f0, c.f2)) = true then some true else r8_clash.l2 (k - d - 1) ((i + 1 : Nat) : Int) b a ns cs cl := by
  intro d
  induction d with
  | zero =>
    intro j k h hk hm
    obtain ⟨k, rfl⟩ : ∃ m, k = m + 1 := ⟨k - 1, by omega⟩
    obtain rfl : j = i := by omega
    simp only [r8_clash.l3]
    rw [if_neg (by omega), if_neg (by rw [hm]; simp), show wrap64 ((j : Int) + 1) = ((j + 1 : Nat) : Int) from by unfold wrap64; omega]
    rfl
  | succ d ih =>
    intro j k h hk hm
    obtain ⟨k, rfl⟩ : ∃ m, k = m + 1 := ⟨k - 1, by omega⟩
    have hj : j < cs.length := by omega
    have ih := ih (j + 1) k (by omega) (by omega)
    simp only [r8_clash.l3]
    rw [if_pos (show (j : Int) < (i : Int) by omega), if_pos (show (0 : Int) ≤ i by omega), if_pos (show (i : Int) < (cs.length : Int) by omega), if_pos (show (0 : Int) ≤ j by omega), if_pos (show (j : Int) < (cs.length : Int) by omega), rd74_get hi, rd74_get hj, show wrap64 ((j : Int) + 1) = ((j + 1 : Nat) : Int) from by unfold wrap64; omega]
    rw [take_snoc hj, List.map_append, List.map_cons, List.map_nil, memB_snoc, hm, Bool.false_or] at ih
    rw [show k + 1 - (d + 1) - 1 = k - d - 1 from by omega]
    simp only [tl_eq]
    by_cases h0 : cs[i].f0 = cs[j].f0
    · rw [if_pos h0]
      by_cases h2 : cs[i].f2 = cs[j].f2
      · rw [if_pos h2, if_pos (by have := memB_take (f := fun c : S74 => (c.f0, c.f2)) (show j < i by omega) hj; simpa [h0, h2] using this)]
      · rw [if_neg h2, ih (by simp [h2])]
    · rw [if_neg h0, ih (by simp [h0])]
theorem rclash_l2 (hl : cs.length ≤ 20) : ∀ (d i k : Nat), i + d = cs.length → 30 * d < k → dup ((cs.take i).map fun c : S74 => (c.f0, c.f2)) = false →
    r8_clash.l2 k i b a ns cs cl = some (dup (cs.map fun c : S74 => (c.f0, c.f2))) := by
  intro d
  induction d with
  | zero =>
    intro i k h hk hm
    obtain ⟨k, rfl⟩ : ∃ m, k = m + 1 := ⟨k - 1, by omega⟩
    simp only [r8_clash.l2]
    rw [if_neg (by omega)]
    rw [show cs.take i = cs from List.take_of_length_le (by omega)] at hm
    rw [hm]
  | succ d ih =>
    intro i k h hk hm
    obtain ⟨k, rfl⟩ : ∃ m, k = m + 1 := ⟨k - 1, by omega⟩
    have hi : i < cs.length := by omega
    simp only [r8_clash.l2]
    have h3 := rclash_l3 (b := b) (a := a) (ns := ns) (cl := cl) hl hi i 0 k (by omega) (by omega) (by simp [memB])
    have hd := dup_step (f := fun c : S74 => (c.f0, c.f2)) hi hm
    rw [if_pos (by omega)]
    refine h3.trans ?_
    by_cases hb : memB (cs[i].f0, cs[i].f2) ((cs.take i).map fun c : S74 => (c.f0, c.f2)) = true
    · rw [if_pos hb, dup_take (i + 1) (by rw [hd]; exact hb)]
    · rw [if_neg hb]
      exact ih (i + 1) _ (by omega) (by omega) (by rw [hd]; simpa using hb)
theorem rclash_l0 (hl : ns.length ≤ 20) (hl2 : cs.length ≤ 20) : ∀ (d i k : Nat), i + d = ns.length → 30 * d + 700 < k → dup ((ns.take i).map fun n : S72 => n.f1) = false →
    r8_clash.l0 k i b a ns cs cl = some (clashP ns cs) := by
  intro d
  induction d with
  | zero =>
    intro i k h hk hm
    obtain ⟨k, rfl⟩ : ∃ m, k = m + 1 := ⟨k - 1, by omega⟩
    simp only [r8_clash.l0]
    rw [if_neg (by omega)]
    rw [show ns.take i = ns from List.take_of_length_le (by omega)] at hm
    unfold clashP
    rw [hm, Bool.false_or]
    exact rclash_l2 hl2 cs.length 0 k (by omega) (by omega) rfl
  | succ d ih =>
    intro i k h hk hm
    obtain ⟨k, rfl⟩ : ∃ m, k = m + 1 := ⟨k - 1, by omega⟩
    have hi : i < ns.length := by omega
    simp only [r8_clash.l0]
    have h3 := rclash_l1 (b := b) (a := a) (cs := cs) (cl := cl) hl hi i 0 k (by omega) (by omega) (by simp [memB])
    have hd := dup_step (f := fun n : S72 => n.f1) hi hm
    rw [if_pos (by omega)]
    refine h3.trans ?_
    by_cases hb : memB ns[i].f1 ((ns.take i).map fun n : S72 => n.f1) = true
    · rw [if_pos hb]
      unfold clashP
      rw [dup_take (i + 1) (by rw [hd]; exact hb), Bool.true_or]
    · rw [if_neg hb]
      exact ih (i + 1) _ (by omega) (by omega) (by rw [hd]; simpa using hb)
theorem rclash_eq (hl : ns.length ≤ 20) (hl2 : cs.length ≤ 20) {k : Nat} (hk : 1300 < k) : r8_clash.f k b a ns cs cl = some (clashP ns cs) :=
  rclash_l0 hl hl2 ns.length 0 k (by omega) (by omega) rfl
theorem rright_l1 (hl : ns.length ≤ 20) {i : Nat} (hi : i < ns.length) : ∀ (d j k : Nat), j + d = i → d < k → memB ns[i].f0 ((ns.take j).map fun n : S72 => n.f0) = false →
    r8_Right.l1 k i j b a ns cs cl = if memB ns[i].f0 ((ns.take i).map fun n : S72 => n.f0) = true then some false else r8_Right.l0 (k - d - 1) ((i + 1 : Nat) : Int) b a ns cs cl := by
  intro d
  induction d with
  | zero =>
    intro j k h hk hm
    obtain ⟨k, rfl⟩ : ∃ m, k = m + 1 := ⟨k - 1, by omega⟩
    obtain rfl : j = i := by omega
    simp only [r8_Right.l1]
    rw [if_neg (by omega), if_neg (by rw [hm]; simp), show wrap64 ((j : Int) + 1) = ((j + 1 : Nat) : Int) from by unfold wrap64; omega]
    rfl
  | succ d ih =>
    intro j k h hk hm
    obtain ⟨k, rfl⟩ : ∃ m, k = m + 1 := ⟨k - 1, by omega⟩
    have hj : j < ns.length := by omega
    simp only [r8_Right.l1]
    rw [if_pos (show (j : Int) < (i : Int) by omega), if_pos (show (0 : Int) ≤ i by omega), if_pos (show (i : Int) < (ns.length : Int) by omega), if_pos (show (0 : Int) ≤ j by omega), if_pos (show (j : Int) < (ns.length : Int) by omega), rd72_get hi, rd72_get hj, show wrap64 ((j : Int) + 1) = ((j + 1 : Nat) : Int) from by unfold wrap64; omega]
    by_cases he : ns[i].f0 = ns[j].f0
    · rw [if_pos ((tl_eq _ _).2 he), if_pos (by rw [he]; exact memB_take (f := fun n : S72 => n.f0) (by omega) hj)]
    · rw [if_neg (fun e => he ((tl_eq _ _).1 e)), ih (j + 1) k (by omega) (by omega) (by rw [take_snoc hj, List.map_append, List.map_cons, List.map_nil, memB_snoc, hm]; simpa using he), show k + 1 - (d + 1) - 1 = k - d - 1 from by omega]
theorem rright_l3 (hl : cs.length ≤ 20) {i : Nat} (hi : i < cs.length) : ∀ (d j k : Nat), j + d = i → d < k → memB (cs[i].f0, cs[i].f1) ((cs.take j).map fun c : S74 => (c.f0, c.f1)) = false →
    r8_Right.l3 k i j b a ns cs cl cs[i].f0 cs[i].f1 cs[i].f2 = if memB (cs[i].f0, cs[i].f1) ((cs.take i).map fun c : S74 => (c.f0, c.f1)) = true then some false else r8_Right.l2 (k - d - 1) ((i + 1 : Nat) : Int) b a ns cs cl := by
  intro d
  induction d with
  | zero =>
    intro j k h hk hm
    obtain ⟨k, rfl⟩ : ∃ m, k = m + 1 := ⟨k - 1, by omega⟩
    obtain rfl : j = i := by omega
    simp only [r8_Right.l3]
    rw [if_neg (by omega), if_neg (by rw [hm]; simp), show wrap64 ((j : Int) + 1) = ((j + 1 : Nat) : Int) from by unfold wrap64; omega]
    rfl
  | succ d ih =>
    intro j k h hk hm
    obtain ⟨k, rfl⟩ : ∃ m, k = m + 1 := ⟨k - 1, by omega⟩
    have hj : j < cs.length := by omega
    have ih := ih (j + 1) k (by omega) (by omega)
    simp only [r8_Right.l3]
    rw [if_pos (show (j : Int) < (i : Int) by omega), if_pos (show (0 : Int) ≤ j by omega), if_pos (show (j : Int) < (cs.length : Int) by omega), rd74_get hj, show wrap64 ((j : Int) + 1) = ((j + 1 : Nat) : Int) from by unfold wrap64; omega]
    rw [take_snoc hj, List.map_append, List.map_cons, List.map_nil, memB_snoc, hm, Bool.false_or] at ih
    rw [show k + 1 - (d + 1) - 1 = k - d - 1 from by omega]
    simp only [tl_eq]
    by_cases h0 : cs[i].f0 = cs[j].f0
    · rw [if_pos h0]
      by_cases h2 : cs[i].f1 = cs[j].f1
      · rw [if_pos h2, if_pos (by have := memB_take (f := fun c : S74 => (c.f0, c.f1)) (show j < i by omega) hj; simpa [h0, h2] using this)]
      · rw [if_neg h2, ih (by simp [h2])]
    · rw [if_neg h0, ih (by simp [h0])]
theorem any_take {α : Type} {p : α → Bool} {l : List α} {i : Nat} (hi : i < l.length) (h : p l[i] = true) : l.any p = true := List.any_eq_true.2 ⟨_, List.getElem_mem hi, h⟩
theorem any_step {α : Type} {p : α → Bool} {l : List α} {i : Nat} (hi : i < l.length) (h : (l.take i).any p = false) (h2 : p l[i] = false) : (l.take (i + 1)).any p = false := by
  rw [take_snoc hi, List.any_append, h]
  simp [h2]
theorem rright_l2 (hl : cs.length ≤ 20) (hl2 : ns.length ≤ 20) : ∀ (d i k : Nat), i + d = cs.length → 40 * d + 1400 < k → (cs.take i).any oddCell = false → dup ((cs.take i).map fun c : S74 => (c.f0, c.f1)) = false →
    r8_Right.l2 k i b a ns cs cl = some (!(cs.any oddCell) && !(dup (cs.map fun c : S74 => (c.f0, c.f1))) && (cl == clashP ns cs)) := by
  intro d
  induction d with
  | zero =>
    intro i k h hk ho hm
    obtain ⟨k, rfl⟩ : ∃ m, k = m + 1 := ⟨k - 1, by omega⟩
    simp only [r8_Right.l2]
    rw [if_neg (by omega), rclash_eq hl2 hl (by omega), Option.bind_some]
    rw [show cs.take i = cs from List.take_of_length_le (by omega)] at hm ho
    rw [hm, ho]
    simp
  | succ d ih =>
    intro i k h hk ho hm
    obtain ⟨k, rfl⟩ : ∃ m, k = m + 1 + 1 := ⟨k - 2, by omega⟩
    have hi : i < cs.length := by omega
    have odd : oddCell cs[i] = true → r8_Right.j5 (k + 1) i true b a ns cs cl cs[i].f0 cs[i].f1 cs[i].f2 = some (!(cs.any oddCell) && !(dup (cs.map fun c : S74 => (c.f0, c.f1))) && (cl == clashP ns cs)) := fun hx => by
      simp only [r8_Right.j5, if_pos]
      rw [any_take hi hx]
      simp
    simp only [r8_Right.l2]
    rw [if_pos (by omega), if_pos (by omega), rd74_get hi]
    by_cases h0 : (cs[i].f0.size : Int) = 16
    · rw [if_pos h0]
      by_cases h1 : (cs[i].f1.size : Int) = 24
      · rw [if_pos h1]
        by_cases h2 : (cs[i].f2.size : Int) = 40
        · rw [show ((cs[i].f2.size : Int) != 40) = false from by simp [h2]]
          simp only [r8_Right.j5]
          have h3 := rright_l3 (b := b) (a := a) (ns := ns) (cl := cl) hl hi i 0 k (by omega) (by omega) (by simp [memB])
          have hd := dup_step (f := fun c : S74 => (c.f0, c.f1)) hi hm
          rw [if_neg (by simp)]
          refine h3.trans ?_
          by_cases hb : memB (cs[i].f0, cs[i].f1) ((cs.take i).map fun c : S74 => (c.f0, c.f1)) = true
          · rw [if_pos hb, dup_take (i + 1) (by rw [hd]; exact hb)]
            simp
          · rw [if_neg hb]
            exact ih (i + 1) _ (by omega) (by omega) (any_step hi ho ((oddCell_iff _).2 ⟨by omega, by omega, by omega⟩)) (by rw [hd]; simpa using hb)
        · rw [show ((cs[i].f2.size : Int) != 40) = true from by simp [h2]]
          exact odd (by unfold oddCell; simp [h2])
      · rw [if_neg h1]
        exact odd (by unfold oddCell; simp [h1])
    · rw [if_neg h0]
      exact odd (by unfold oddCell; simp [h0])
theorem rright_l0 (hl : cs.length ≤ 20) (hl2 : ns.length ≤ 20) : ∀ (d i k : Nat), i + d = ns.length → 40 * d + 2300 < k → (ns.take i).any oddName = false → dup ((ns.take i).map fun n : S72 => n.f0) = false →
    r8_Right.l0 k i b a ns cs cl = some (!(ns.any oddName) && !(dup (ns.map fun n : S72 => n.f0)) && (!(cs.any oddCell) && !(dup (cs.map fun c : S74 => (c.f0, c.f1))) && (cl == clashP ns cs))) := by
  intro d
  induction d with
  | zero =>
    intro i k h hk ho hm
    obtain ⟨k, rfl⟩ : ∃ m, k = m + 1 := ⟨k - 1, by omega⟩
    simp only [r8_Right.l0]
    rw [if_neg (by omega)]
    rw [show ns.take i = ns from List.take_of_length_le (by omega)] at hm ho
    rw [hm, ho]
    exact rright_l2 hl hl2 cs.length 0 k (by omega) (by omega) rfl rfl
  | succ d ih =>
    intro i k h hk ho hm
    obtain ⟨k, rfl⟩ : ∃ m, k = m + 1 + 1 := ⟨k - 2, by omega⟩
    have hi : i < ns.length := by omega
    simp only [r8_Right.l0]
    rw [if_pos (by omega), if_pos (by omega), rd72_get hi]
    have odd : oddName ns[i] = true → r8_Right.j2 (k + 1) i true b a ns cs cl = some (!(ns.any oddName) && !(dup (ns.map fun n : S72 => n.f0)) && (!(cs.any oddCell) && !(dup (cs.map fun c : S74 => (c.f0, c.f1))) && (cl == clashP ns cs))) := fun hx => by
      simp only [r8_Right.j2, if_pos]
      rw [any_take hi hx]
      simp
    by_cases h0 : (ns[i].f0.size : Int) > 100
    · rw [if_pos h0]
      exact odd (by unfold oddName; simp; omega)
    · rw [if_neg h0]
      by_cases h1 : (ns[i].f1.size : Int) = 16
      · rw [show ((ns[i].f1.size : Int) != 16) = false from by simp [h1]]
        simp only [r8_Right.j2]
        have h3 := rright_l1 (b := b) (a := a) (cs := cs) (cl := cl) hl2 hi i 0 k (by omega) (by omega) (by simp [memB])
        have hd := dup_step (f := fun n : S72 => n.f0) hi hm
        rw [if_neg (by simp)]
        refine h3.trans ?_
        by_cases hb : memB ns[i].f0 ((ns.take i).map fun n : S72 => n.f0) = true
        · rw [if_pos hb, dup_take (i + 1) (by rw [hd]; exact hb)]
          simp
        · rw [if_neg hb]
          exact ih (i + 1) _ (by omega) (by omega) (any_step hi ho ((oddName_iff _).2 ⟨by omega, by omega⟩)) (by rw [hd]; simpa using hb)
      · rw [show ((ns[i].f1.size : Int) != 16) = true from by simp [h1]]
        exact odd (by unfold oddName; simp [h1])
theorem rright8_eq (hl2 : ns.length ≤ 20) (hl : cs.length ≤ 20) {k : Nat} (hk : 3200 < k) : r8_Right.f k b a ns cs cl = some (rightP b a ns cs cl) := by
  obtain ⟨k, rfl⟩ : ∃ m, k = m + 1 := ⟨k - 1, by omega⟩
  unfold r8_Right.f
  rw [rright_eq, Option.bind_some]
  unfold rightP
  rw [tapeP_eq, show decide (ns.length ≤ 2000 ∧ cs.length ≤ 2000) = true from decide_eq_true ⟨by omega, by omega⟩]
  cases hr : rightB b a
  · rw [if_neg (by simp)]
    simp only [r8_Right.j0, if_pos]
    simp
  · rw [if_pos rfl, if_neg (by omega), show decide ((cs.length : Int) > 2000) = false from by simp; omega]
    simp only [r8_Right.j0]
    rw [if_neg (by simp)]
    have h0 := rright_l0 (b := b) (a := a) (cl := cl) hl hl2 ns.length 0 k (by omega) (by omega) rfl rfl
    refine h0.trans ?_
    cases ns.any oddName <;> cases dup (ns.map fun n : S72 => n.f0) <;> cases cs.any oddCell <;> simp
end
end Go.Proofs.Ytmkncddbecmlpaa.Pr
end
section
set_option linter.unusedVariables false
namespace Go.Proofs.Ytmkncddbecmlpaa.Pr
open Go.RowKit Go.Proofs.YtmkncddbecmlpaaW.PrintWords Go.Proofs.YtmkncddbecmlpaaW.PrintLast Go.Proofs.YtmkncddbecmlpaaW.PrintMore
abbrev Answer := ByteArray × ByteArray × Int × (List S72) × (List S74) × Bool × Int
def labelT (b : ByteArray) (a : Int) (ns : List S72) (cs : List S74) (cl : Bool) (t : ByteArray) : Answer :=
  match ns.find? (fun n => decide (n.f0 = t)) with
  | some n => (n.f1, b, a, ns, cs, cl, 0)
  | none => if a + 16 ≤ (b.size : Int) then (cut b a 16, b, a + 16, ns ++ [⟨t, cut b a 16⟩], cs, clashP (ns ++ [⟨t, cut b a 16⟩]) cs, 0) else (⟨#[]⟩, b, a, ns, cs, cl, 12)
def labelS (b : ByteArray) (a : Int) (ns : List S72) (cs : List S74) (cl : Bool) (t : ByteArray) : Answer :=
  if rightP b a ns cs cl = true ∧ t.size ≤ 100 then labelT b a ns cs cl t else (⟨#[]⟩, b, a, ns, cs, cl, 1)
def sealT (b : ByteArray) (a : Int) (ns : List S72) (cs : List S74) (cl : Bool) (l t : ByteArray) : Answer :=
  match cs.find? (fun n => decide (n.f0 = l) && decide (n.f1 = t)) with
  | some c => (c.f2, b, a, ns, cs, cl, 0)
  | none => if a + 40 ≤ (b.size : Int) then (cut b a 40, b, a + 40, ns, cs ++ [⟨l, t, cut b a 40⟩], clashP ns (cs ++ [⟨l, t, cut b a 40⟩]), 0) else (⟨#[]⟩, b, a, ns, cs, cl, 12)
def sealS (b : ByteArray) (a : Int) (ns : List S72) (cs : List S74) (cl : Bool) (l t : ByteArray) : Answer :=
  if rightP b a ns cs cl = true ∧ l.size = 16 ∧ t.size = 24 then sealT b a ns cs cl l t else (⟨#[]⟩, b, a, ns, cs, cl, 1)
section
variable {b : ByteArray} {a : Int} {ns : List S72} {cs : List S74} {cl : Bool}
theorem label_eq (h1 : ns.length ≤ 1999) (h2 : cs.length ≤ 1999) (t : ByteArray) (k : Nat) : ideal_Label.f (k + 2) b a ns cs cl t = some (labelS b a ns cs cl t) := by
  unfold ideal_Label.f
  rw [own_eq ⟨by omega, by omega⟩]
  simp only [Option.bind_some]
  unfold ideal_Right.f
  simp only [Option.bind_some]
  by_cases hr : rightP b a ns cs cl = true
  case neg =>
    rw [if_neg hr, show labelS b a ns cs cl t = _ from if_neg (fun h => hr h.1)]
    simp only [ideal_Label.j0, if_pos]
  · have hR := rightP_iff.1 hr
    rw [if_pos hr]
    simp only [ideal_Label.j0]
    by_cases ht : t.size ≤ 100
    · rw [show decide ((t.size : Int) > 100) = false from by simp; omega, if_neg (by simp), show labelS b a ns cs cl t = labelT b a ns cs cl t from if_pos ⟨hr, ht⟩]
      unfold ideal_find_51.f fnd labelT
      cases hf : ns.find? (fun n => decide (n.f0 = t)) with
      | some n => simp
      | none =>
        simp only [Option.bind_some]
        rw [if_neg (by simp), if_neg (by omega), take_eq]
        by_cases hroom : a + 16 ≤ (b.size : Int)
        · rw [takeP_ok hR.tape (by omega) (by omega), Option.bind_some, if_pos hroom]
          dsimp only
          rw [if_pos rfl, own_eq ⟨by omega, by omega⟩, Option.bind_some]
          dsimp only
          rw [if_pos (by omega)]
          unfold ideal_clash.f
          rfl
        · rw [takeP_short hR.tape (by omega) (by omega), Option.bind_some, if_neg hroom]
          dsimp only
          rw [if_neg (by decide)]
    · rw [show decide ((t.size : Int) > 100) = true from by simp; omega, if_pos rfl, show labelS b a ns cs cl t = _ from if_neg (fun h => ht h.2)]
theorem seal_eq (h1 : ns.length ≤ 1999) (h2 : cs.length ≤ 1999) (l t : ByteArray) (k : Nat) : ideal_Seal.f (k + 2) b a ns cs cl l t = some (sealS b a ns cs cl l t) := by
  unfold ideal_Seal.f
  rw [own_eq ⟨by omega, by omega⟩]
  simp only [Option.bind_some]
  unfold ideal_Right.f
  simp only [Option.bind_some]
  by_cases hr : rightP b a ns cs cl = true
  case neg =>
    rw [if_neg hr, show sealS b a ns cs cl l t = _ from if_neg (fun h => hr h.1)]
    simp only [ideal_Seal.j0, if_pos]
  · have hR := rightP_iff.1 hr
    rw [if_pos hr]
    by_cases hl : (l.size : Int) = 16
    case neg =>
      rw [if_neg hl, show sealS b a ns cs cl l t = _ from if_neg (fun h => hl (by omega))]
      simp only [ideal_Seal.j0, if_pos]
    rw [if_pos hl]
    simp only [ideal_Seal.j0]
    by_cases ht : t.size = 24
    · rw [show ((t.size : Int) != 24) = false from by simp; omega, if_neg (by simp), show sealS b a ns cs cl l t = sealT b a ns cs cl l t from if_pos ⟨hr, by omega, ht⟩]
      unfold ideal_find_66.f fnd sealT
      cases hf : cs.find? (fun n => decide (n.f0 = l) && decide (n.f1 = t)) with
      | some n => simp
      | none =>
        simp only [Option.bind_some]
        rw [if_neg (by simp), if_neg (by omega), take_eq]
        by_cases hroom : a + 40 ≤ (b.size : Int)
        · rw [takeP_ok hR.tape (by omega) (by omega), Option.bind_some, if_pos hroom]
          dsimp only
          rw [if_pos rfl, own_eq ⟨by omega, by omega⟩, Option.bind_some]
          dsimp only
          rw [if_pos (by omega)]
          unfold ideal_clash.f
          rfl
        · rw [takeP_short hR.tape (by omega) (by omega), Option.bind_some, if_neg hroom]
          dsimp only
          rw [if_neg (by decide)]
    · rw [show ((t.size : Int) != 24) = true from by simp; omega, if_pos rfl, show sealS b a ns cs cl l t = _ from if_neg (fun h => ht h.2.2)]
theorem rown_eq (h1 : ns.length ≤ 1999) (h2 : cs.length ≤ 1999) : r8_Own.f b a ns cs cl = some (b, a, ns, cs, cl) := by
  unfold r8_Own.f
  rw [if_pos (by simp; omega), if_pos (by simp; omega)]
  rfl
theorem rlabel_l0 (h1 : ns.length ≤ 19) (h2 : cs.length ≤ 19) (hR : RightS b a ns cs cl) (t : ByteArray) : ∀ (d i k : Nat), i + d = ns.length → d + 1400 < k → (∀ j, (hj : j < ns.length) → j < i → ns[j].f0 ≠ t) →
    r8_Label.l0 k t i b a ns cs cl b a ns cs cl = some (labelT b a ns cs cl t) := by
  intro d
  induction d with
  | zero =>
    intro i k h hk hn
    obtain ⟨k, rfl⟩ : ∃ m, k = m + 1 + 1 := ⟨k - 2, by omega⟩
    simp only [r8_Label.l0]
    rw [if_neg (by omega), if_neg (by omega), rtake_eq _ _ _ (by omega)]
    have hf : ns.find? (fun n => decide (n.f0 = t)) = none := by
      rw [List.find?_eq_none]
      intro x hx
      obtain ⟨j, hj, rfl⟩ := List.getElem_of_mem hx
      simpa using hn j hj (by omega)
    unfold labelT
    rw [hf]
    dsimp only
    by_cases hroom : a + 16 ≤ (b.size : Int)
    · rw [takeP_ok hR.tape (by omega) (by omega), Option.bind_some, if_pos hroom]
      dsimp only
      rw [if_pos rfl, if_pos (by omega), Option.bind_some, rclash_eq (by simp; omega) (by omega) (by omega)]
      rfl
    · rw [takeP_short hR.tape (by omega) (by omega), Option.bind_some, if_neg hroom]
      dsimp only
      rw [if_neg (by decide)]
  | succ d ih =>
    intro i k h hk hn
    obtain ⟨k, rfl⟩ : ∃ m, k = m + 1 := ⟨k - 1, by omega⟩
    have hi : i < ns.length := by omega
    simp only [r8_Label.l0]
    rw [if_pos (by omega), if_pos (by omega), rd72_get hi, show wrap64 ((i : Int) + 1) = ((i + 1 : Nat) : Int) from by unfold wrap64; omega]
    by_cases he : ns[i].f0 = t
    · rw [if_pos ((tl_eq _ _).2 he)]
      unfold labelT
      rw [List.find?_eq_some_iff_getElem.2 ⟨by simpa using he, i, hi, rfl, fun j hj => by simpa using hn j (by omega) hj⟩]
    · rw [if_neg (fun e => he ((tl_eq _ _).1 e))]
      refine ih (i + 1) k (by omega) (by omega) (fun j hj hji => ?_)
      by_cases e : j < i
      · exact hn j hj e
      · obtain rfl : j = i := by omega
        exact he
theorem rlabel_eq (h1 : ns.length ≤ 19) (h2 : cs.length ≤ 19) (t : ByteArray) {k : Nat} (hk : 3300 < k) : r8_Label.f k b a ns cs cl t = some (labelS b a ns cs cl t) := by
  obtain ⟨k, rfl⟩ : ∃ m, k = m + 1 := ⟨k - 1, by omega⟩
  unfold r8_Label.f
  rw [rown_eq (by omega) (by omega), Option.bind_some, rright8_eq (by omega) (by omega) (by omega), Option.bind_some]
  by_cases hr : rightP b a ns cs cl = true
  case neg =>
    rw [if_neg hr, show labelS b a ns cs cl t = _ from if_neg (fun h => hr h.1)]
    simp only [r8_Label.j0, if_pos]
  · rw [if_pos hr]
    simp only [r8_Label.j0]
    by_cases ht : t.size ≤ 100
    · rw [show decide ((t.size : Int) > 100) = false from by simp; omega, if_neg (by simp), show labelS b a ns cs cl t = labelT b a ns cs cl t from if_pos ⟨hr, ht⟩]
      exact rlabel_l0 h1 h2 (rightP_iff.1 hr) t ns.length 0 k (by omega) (by omega) (fun j _ h => absurd h (by omega))
    · rw [show decide ((t.size : Int) > 100) = true from by simp; omega, if_pos rfl, show labelS b a ns cs cl t = _ from if_neg (fun h => ht h.2)]
theorem rseal_l0 (h1 : ns.length ≤ 19) (h2 : cs.length ≤ 19) (hR : RightS b a ns cs cl) (l t : ByteArray) : ∀ (d i k : Nat), i + d = cs.length → d + 1400 < k → (∀ j, (hj : j < cs.length) → j < i → ¬ (cs[j].f0 = l ∧ cs[j].f1 = t)) →
    r8_Seal.l0 k l t i b a ns cs cl b a ns cs cl = some (sealT b a ns cs cl l t) := by
  intro d
  induction d with
  | zero =>
    intro i k h hk hn
    obtain ⟨k, rfl⟩ : ∃ m, k = m + 1 + 1 := ⟨k - 2, by omega⟩
    simp only [r8_Seal.l0]
    rw [if_neg (by omega), if_neg (by omega), rtake_eq _ _ _ (by omega)]
    have hf : cs.find? (fun n => decide (n.f0 = l) && decide (n.f1 = t)) = none := by
      rw [List.find?_eq_none]
      intro x hx
      obtain ⟨j, hj, rfl⟩ := List.getElem_of_mem hx
      have h9 := hn j hj (by omega)
      simp only [Bool.and_eq_true, decide_eq_true_eq]
      exact h9
    unfold sealT
    rw [hf]
    dsimp only
    by_cases hroom : a + 40 ≤ (b.size : Int)
    · rw [takeP_ok hR.tape (by omega) (by omega), Option.bind_some, if_pos hroom]
      dsimp only
      rw [if_pos rfl, if_pos (by omega), Option.bind_some, rclash_eq (by omega) (by simp; omega) (by omega)]
      rfl
    · rw [takeP_short hR.tape (by omega) (by omega), Option.bind_some, if_neg hroom]
      dsimp only
      rw [if_neg (by decide)]
  | succ d ih =>
    intro i k h hk hn
    obtain ⟨k, rfl⟩ : ∃ m, k = m + 1 := ⟨k - 1, by omega⟩
    have hi : i < cs.length := by omega
    have ih := ih (i + 1) k (by omega) (by omega)
    simp only [r8_Seal.l0]
    rw [if_pos (by omega), if_pos (by omega), rd74_get hi, show wrap64 ((i : Int) + 1) = ((i + 1 : Nat) : Int) from by unfold wrap64; omega]
    simp only [tl_eq]
    have next : ¬ (cs[i].f0 = l ∧ cs[i].f1 = t) → r8_Seal.l0 k l t ((i + 1 : Nat) : Int) b a ns cs cl b a ns cs cl = some (sealT b a ns cs cl l t) := fun he => by
      refine ih (fun j hj hji => ?_)
      by_cases e : j < i
      · exact hn j hj e
      · obtain rfl : j = i := by omega
        exact he
    by_cases he : cs[i].f0 = l
    · rw [if_pos he]
      by_cases he2 : cs[i].f1 = t
      · rw [if_pos he2]
        unfold sealT
        rw [List.find?_eq_some_iff_getElem.2 ⟨by simp [he, he2], i, hi, rfl, fun j hj => by
          have h9 := hn j (by omega) hj
          by_cases e : cs[j].f0 = l <;> simp [e]
          exact fun e2 => h9 ⟨e, e2⟩⟩]
      · rw [if_neg he2]
        exact next (fun h => he2 h.2)
    · rw [if_neg he]
      exact next (fun h => he h.1)
theorem rseal_eq (h1 : ns.length ≤ 19) (h2 : cs.length ≤ 19) (l t : ByteArray) {k : Nat} (hk : 3300 < k) : r8_Seal.f k b a ns cs cl l t = some (sealS b a ns cs cl l t) := by
  obtain ⟨k, rfl⟩ : ∃ m, k = m + 1 := ⟨k - 1, by omega⟩
  unfold r8_Seal.f
  rw [rown_eq (by omega) (by omega), Option.bind_some, rright8_eq (by omega) (by omega) (by omega), Option.bind_some]
  by_cases hr : rightP b a ns cs cl = true
  case neg =>
    rw [if_neg hr, show sealS b a ns cs cl l t = _ from if_neg (fun h => hr h.1)]
    simp only [r8_Seal.j0, if_pos]
  · rw [if_pos hr]
    by_cases hl : (l.size : Int) = 16
    case neg =>
      rw [if_neg hl, show sealS b a ns cs cl l t = _ from if_neg (fun h => hl (by omega))]
      simp only [r8_Seal.j0, if_pos]
    rw [if_pos hl]
    simp only [r8_Seal.j0]
    by_cases ht : t.size = 24
    · rw [show ((t.size : Int) != 24) = false from by simp; omega, if_neg (by simp), show sealS b a ns cs cl l t = sealT b a ns cs cl l t from if_pos ⟨hr, by omega, ht⟩]
      exact rseal_l0 h1 h2 (rightP_iff.1 hr) l t cs.length 0 k (by omega) (by omega) (fun j _ h => absurd h (by omega))
    · rw [show ((t.size : Int) != 24) = true from by simp; omega, if_pos rfl, show sealS b a ns cs cl l t = _ from if_neg (fun h => ht h.2.2)]
end
end Go.Proofs.Ytmkncddbecmlpaa.Pr
end
section
set_option linter.unusedVariables false
namespace Go.Proofs.Ytmkncddbecmlpaa.Pr
open Go.RowKit Go.Proofs.YtmkncddbecmlpaaW.PrintWords Go.ChangeShapes Go.WideShapes Go.ChangeAt
def wf46 (l : List S46) : Prop := ∀ x ∈ l, (Lit.int .i64 x.f0).wf = true ∧ (Lit.int .i64 x.f1).wf = true ∧ (Lit.int .i64 x.f2).wf = true
theorem rd46_wf {l : List S46} (h : wf46 l) {i : Int} (h0 : 0 ≤ i) (h1 : i < l.length) : (Lit.int .i64 (rd_T46 l i).f0).wf = true ∧ (Lit.int .i64 (rd_T46 l i).f1).wf = true ∧ (Lit.int .i64 (rd_T46 l i).f2).wf = true := by
  have hi : i.toNat < l.length := by omega
  have : rd_T46 l i = l[i.toNat] := by unfold rd_T46; simp [hi]
  rw [this]
  exact h _ (List.getElem_mem hi)
section
variable {H : Type} {enc : TypeId × Value → H} {w : World} {base : Nat} {spare : Nat → Bool} {held : Bool} {fuel : Nat}
set_option maxRecDepth 100000 in
theorem open_46 {cs : List Value} {x : DataW H × List MemPlace} (h : DataW.trod enc Try.prog w base spare held fuel 46 cs = some x) :
    ∃ s : S46, cs = [.int .i64 s.f0, .int .i64 s.f1, .int .i64 s.f2] ∧ (Lit.int .i64 s.f0).wf = true ∧ (Lit.int .i64 s.f1).wf = true ∧ (Lit.int .i64 s.f2).wf = true := by
  obtain ⟨xs, m, rfl, rfl, hl, hx, he⟩ := DataW.trod_array Try.underlying46 h
  have hc : Try.prog.cellsOf 46 = 3 := by kernel_rfl
  have hc3 : Try.prog.cellsOf 3 = 1 := by kernel_rfl
  rw [hc] at hl
  match cs, hl with
  | [u0, u1, u2], _ =>
    have g : ∀ i, (hi : i < 3) → ∃ n, ((([u0, u1, u2] : List Value).drop (i * 1)).take 1) = [.int .i64 n] ∧ (Lit.int .i64 n).wf = true := fun i hi => by
      have := he i hi
      rw [hc3, List.getElem?_eq_getElem (by omega)] at this
      obtain ⟨n, e, _, hw⟩ := DataW.trod_int Try.underlying3 this
      exact ⟨n, e, hw⟩
    obtain ⟨n0, e0, w0⟩ := g 0 (by omega)
    obtain ⟨n1, e1, w1⟩ := g 1 (by omega)
    obtain ⟨n2, e2, w2⟩ := g 2 (by omega)
    simp at e0 e1 e2
    subst e0
    subst e1
    subst e2
    exact ⟨⟨n0, n1, n2⟩, rfl, w0, w1, w2⟩
theorem open_rows46 {a : Option Addr} {len cap : Nat} {d : DataW H} {p : List MemPlace} (h : DataW.Trod enc Try.prog w base spare held 45 (.slice a len cap) d p) :
    ∃ l : List S46, len = l.length ∧ Kd.C k46 w a l.length l ∧ l.length ≤ cap ∧ l.length ≤ maxLen ∧ wf46 l := by
  obtain ⟨fuel, hf⟩ := h
  have hc : Try.prog.cellsOf 46 = 3 := by kernel_rfl
  rcases DataW.trod_slice Try.underlying45 hf with ⟨hcs, _⟩ | ⟨ad, l, c, elems, rest, n, rfl, hcs, _, _, hlc, hcm, hel, hcell, _⟩
  · simp [Value.cells] at hcs
    obtain ⟨rfl, rfl, rfl⟩ := hcs
    exact ⟨[], rfl, ⟨rfl, by simp, fun h => absurd h (by simp)⟩, by simp, by simp, fun x hx => by cases hx⟩
  · simp [Value.cells] at hcs
    obtain ⟨rfl, rfl, rfl⟩ := hcs
    rw [hc] at hcell
    have each : ∀ i, i < len → ∃ s : S46, (∀ j u, ([.int .i64 s.f0, .int .i64 s.f1, .int .i64 s.f2] : List Value)[j]? = some u → w.cell? (ad.add (i * 3 + j)) = some u) ∧ (Lit.int .i64 s.f0).wf = true ∧ (Lit.int .i64 s.f1).wf = true ∧ (Lit.int .i64 s.f2).wf = true := fun i hi => by
      have h1 := hcell i hi
      rw [List.getElem?_eq_getElem (by omega), Option.bind_eq_some_iff] at h1
      obtain ⟨cs, h2, h3⟩ := h1
      obtain ⟨s, rfl, w0, w1, w2⟩ := open_46 h3
      refine ⟨s, fun j u hj => ?_, w0, w1, w2⟩
      have h4 := (World.cells?_some h2).2.2 j (by
        have := (List.getElem?_eq_some_iff.1 hj).1
        simpa using this)
      rw [hj] at h4
      rw [← h4, Addr.add_add]
    clear hcell
    have hs : ∃ l : List S46, l.length = len ∧ ∀ i s, l[i]? = some s → (∀ j u, ([.int .i64 s.f0, .int .i64 s.f1, .int .i64 s.f2] : List Value)[j]? = some u → w.cell? (ad.add (i * 3 + j)) = some u) ∧ (Lit.int .i64 s.f0).wf = true ∧ (Lit.int .i64 s.f1).wf = true ∧ (Lit.int .i64 s.f2).wf = true := by
      refine ⟨(List.range len).map fun i => if hi : i < len then (each i hi).choose else z46, by simp, fun i s hi => ?_⟩
      have hl := (List.getElem?_eq_some_iff.1 hi).1
      simp at hl
      simp [hl] at hi
      subst hi
      exact (each i hl).choose_spec
    obtain ⟨l, rfl, hl⟩ := hs
    have hmax : maxLen ≤ 9223372036854775807 := by decide
    refine ⟨l, rfl, ⟨rfl, by omega, fun _ => ⟨ad, rfl, fun j s hj => ⟨_, rfl, k46_mk w s, (hl j s hj).1⟩⟩⟩, hlc, by omega, fun x hx => ?_⟩
    obtain ⟨i, hi⟩ := List.getElem?_of_mem hx
    exact (hl i x hi).2
end
end Go.Proofs.Ytmkncddbecmlpaa.Pr
end
section
namespace Go.Proofs.Ytmkncddbecmlpaa.Pr
open Go.Proofs.Ytmkncddbecmlpaa.Sq Go.RowKit Go.Proofs.YtmkncddbecmlpaaW.PrintWords Go.Proofs.YtmkncddbecmlpaaW.PrintLast Go.Proofs.YtmkncddbecmlpaaW.PrintMore
attribute [local go_sem] max2_int min2_int max_two min_two max_three min_three max_four min_four
set_option linter.unusedVariables false
set_option linter.unusedSimpArgs false
def r8_Open.l0 : Nat → ByteArray → ByteArray → Int → ByteArray → Int → List (S72) → List (S74) → Bool → Option (ByteArray × Int)
 | 0, _, _, _, _, _, _, _, _ => none
 | k + 1, x1, x2, x8, xz2000, xz2001, xz2002, xz2003, xz2004 => if x8 < (xz2003.length : Int) then (if 0 ≤ x8 then (if ((rd_T74 xz2003 x8).f0).toList = x1.toList then (if ((rd_T74 xz2003 x8).f2).toList = x2.toList then (some ((rd_T74 xz2003 x8).f1, 0)) else (r8_Open.l0 k x1 x2 (wrap64 (x8 + 1)) xz2000 xz2001 xz2002 xz2003 xz2004)) else (r8_Open.l0 k x1 x2 (wrap64 (x8 + 1)) xz2000 xz2001 xz2002 xz2003 xz2004)) else (none)) else (some ((⟨#[]⟩ : ByteArray), 11))
def r8_Open.f (k : Nat) (a0_0 : ByteArray) (a0_1 : Int) (l0_2 : List (S72)) (l0_3 : List (S74)) (a0_4 : Bool) (a1 : ByteArray) (a2 : ByteArray) : Option (ByteArray × Int) := (r8_Right.f k a0_0 a0_1 l0_2 l0_3 a0_4).bind fun tz2 => (if tz2 = true then (r8_Open.l0 k a1 a2 0 a0_0 a0_1 l0_2 l0_3 a0_4) else (some ((⟨#[]⟩ : ByteArray), 1)))
set_option maxHeartbeats 8000000 in
set_option maxRecDepth 100000 in
theorem r8_Open.calls (k : Nat) (a0_0 : ByteArray) (a0_1 : Int) (A0_2 : Option Addr) (c0_2 : Nat) (l0_2 : List (S72)) (A0_3 : Option Addr) (c0_3 : Nat) (l0_3 : List (S74)) (a0_4 : Bool) (a1 : ByteArray) (a2 : ByteArray) (r1 : ByteArray) (r2 : Int) (w : World) (hr0_2 : Kd.C k72 w A0_2 l0_2.length l0_2) (hc0_2 : l0_2.length ≤ c0_2) (hr0_3 : Kd.C k74 w A0_3 l0_3.length l0_3) (hc0_3 : l0_3.length ≤ c0_3) (h : r8_Open.f k a0_0 a0_1 l0_2 l0_3 a0_4 a1 a2 = some (r1, r2)) :
  Calls Try.prog 44 #[.agg #[.string a0_0, .int .i64 a0_1, .slice A0_2 l0_2.length c0_2, .slice A0_3 l0_3.length c0_3, .bool a0_4], .string a1, .string a2] w fun e w' => e = .returned (.tuple #[.string r1, .int .i64 r2]) ∧ Below w.heap.size w w' := by
 have hu50 := Try.underlying50
 have HR0_2 := am hr0_2
 have HC0_2 := am hc0_2
 clear hr0_2 hc0_2
 have HR0_3 := am hr0_3
 have HC0_3 := am hc0_3
 clear hr0_3 hc0_3
 have HB := am (Below.refl w.heap.size w)
 have H : ((r8_Right.f k a0_0 a0_1 l0_2 l0_3 a0_4).bind fun tz2 => (if tz2 = true then (r8_Open.l0 k a1 a2 0 a0_0 a0_1 l0_2 l0_3 a0_4) else (some ((⟨#[]⟩ : ByteArray), 1)))) = some (r1, r2) := h
 clear h
 replace H := ob_ H
 obtain ⟨tz2, A40, H⟩ := H
 replace H : (if tz2 = true then (r8_Open.l0 k a1 a2 0 a0_0 a0_1 l0_2 l0_3 a0_4) else (some ((⟨#[]⟩ : ByteArray), 1))) = some (r1, r2) := H
 have A4 := Aside0.mk A40
 clear A40
 by_cases c5 : tz2 = true
 rotate_left
 ·replace c5 := Bool.eq_false_iff.mpr c5
  subst c5
  have H1 : (some ((⟨#[]⟩ : ByteArray), 1)) = some (r1, r2) := by rw [if_neg (show ¬ (false = true) by decide)] at H; exact H
  clear H
  have H := H1
  clear H1
  simp only [Option.some.injEq, Prod.mk.injEq] at H
  obtain ⟨rfl, rfl⟩ := H
  go_enter Try.func44, Try.ntmps44
  go_wp2_with (first | ((with_reducible refine gate_dst (N := 3) rfl ?_); refine box_event ?hg (N := 3) ?hd (cs := #[.string a0_0, .int .i64 a0_1, .slice A0_2 l0_2.length c0_2, .slice A0_3 l0_3.length c0_3, .bool a0_4]) (t := 50) ?hr ?_; (case hd => rfl); (case hg => rfl); (case hr => first | (go_simp; done) | (go_simp; rfl)); intro gbz1 hg w17 hbox hb; have n0_ := am (below_step (pb HB) hb); have n1_ := am (hbox); have n2_ := ge_ hg (pb HB); have n3_ := ge_ hg (pb HB); clear HB; have HB := n0_; have BKz1 := n1_; have GWz1 := n2_; have GEz1 := n3_; clear n0_ n1_ n2_ n3_; clear hb hbox hg; obtain ⟨hcz18_0, hcz18_1, hcz18_2, hcz18_3, hcz18_4⟩ := bc5 BKz1; obtain ⟨hfz18_0, hfz18_1, hfz18_2, hfz18_3, hfz18_4⟩ := bf5 BKz1) | ((with_reducible refine gate_callee (f := 38) rfl ?_); refine goesL_ (some 10) rfl rfl Try.func38 (by kernel_rfl) rfl #[.agg #[.string a0_0, .int .i64 a0_1, .slice A0_2 l0_2.length c0_2, .slice A0_3 l0_3.length c0_3, .bool a0_4]] rfl (by (try simp only [List.map_toArray, List.map_cons, List.map_nil]) <;> rfl) ?_; (with_reducible refine (r8_Right.calls k a0_0 a0_1 _ _ l0_2 _ _ l0_3 a0_4 false _ ?side1 ?side2 ?side3 ?side4 A4.out).mono ?_); (case side1 => repeat (first | exact (Kd.C_below HR0_2.out HB.out) | (with_reducible refine Kd.C_alloc ?_ _) | (with_reducible refine Kd.C_drewN ?_ _) | (with_reducible refine Kd.C_drew ?_))); (case side2 => exact HC0_2.out); (case side3 => repeat (first | exact (Kd.C_below HR0_3.out HB.out) | (with_reducible refine Kd.C_alloc ?_ _) | (with_reducible refine Kd.C_drewN ?_ _) | (with_reducible refine Kd.C_drew ?_))); (case side4 => exact HC0_3.out); rintro e w19 ⟨rfl, hb⟩; refine ⟨_, rfl, ?_⟩; have n0_ := am (bkB (pk BKz1) hb); have n1_ := am (below_step (sC_ HB) hb); clear BKz1; clear HB; have BKz1 := n0_; have HB := n1_; clear n0_ n1_; (try clear hi)))
  go_ret2
  exact ⟨by first | rfl | (simp <;> rfl) | (simp [*] <;> rfl), sC_ HB⟩
 subst c5
 have H1 : (r8_Open.l0 k a1 a2 0 a0_0 a0_1 l0_2 l0_3 a0_4) = some (r1, r2) := by rw [if_pos rfl] at H; exact H
 clear H
 have H := H1
 clear H1
 have H' := am H
 clear H
 go_enter Try.func44, Try.ntmps44
 go_wp2_with (first | ((with_reducible refine gate_dst (N := 3) rfl ?_); refine box_event ?hg (N := 3) ?hd (cs := #[.string a0_0, .int .i64 a0_1, .slice A0_2 l0_2.length c0_2, .slice A0_3 l0_3.length c0_3, .bool a0_4]) (t := 50) ?hr ?_; (case hd => rfl); (case hg => rfl); (case hr => first | (go_simp; done) | (go_simp; rfl)); intro gbz1 hg w6 hbox hb; have n0_ := am (below_step (pb HB) hb); have n1_ := am (hbox); have n2_ := ge_ hg (pb HB); have n3_ := ge_ hg (pb HB); clear HB; have HB := n0_; have BKz1 := n1_; have GWz1 := n2_; have GEz1 := n3_; clear n0_ n1_ n2_ n3_; clear hb hbox hg; obtain ⟨hcz7_0, hcz7_1, hcz7_2, hcz7_3, hcz7_4⟩ := bc5 BKz1; obtain ⟨hfz7_0, hfz7_1, hfz7_2, hfz7_3, hfz7_4⟩ := bf5 BKz1) | ((with_reducible refine gate_callee (f := 38) rfl ?_); refine goesL_ (some 10) rfl rfl Try.func38 (by kernel_rfl) rfl #[.agg #[.string a0_0, .int .i64 a0_1, .slice A0_2 l0_2.length c0_2, .slice A0_3 l0_3.length c0_3, .bool a0_4]] rfl (by (try simp only [List.map_toArray, List.map_cons, List.map_nil]) <;> rfl) ?_; (with_reducible refine (r8_Right.calls k a0_0 a0_1 _ _ l0_2 _ _ l0_3 a0_4 true _ ?side1 ?side2 ?side3 ?side4 A4.out).mono ?_); (case side1 => repeat (first | exact (Kd.C_below HR0_2.out HB.out) | (with_reducible refine Kd.C_alloc ?_ _) | (with_reducible refine Kd.C_drewN ?_ _) | (with_reducible refine Kd.C_drew ?_))); (case side2 => exact HC0_2.out); (case side3 => repeat (first | exact (Kd.C_below HR0_3.out HB.out) | (with_reducible refine Kd.C_alloc ?_ _) | (with_reducible refine Kd.C_drewN ?_ _) | (with_reducible refine Kd.C_drew ?_))); (case side4 => exact HC0_3.out); rintro e w8 ⟨rfl, hb⟩; refine ⟨_, rfl, ?_⟩; have n0_ := am (bkB (pk BKz1) hb); have n1_ := am (below_step (sC_ HB) hb); clear BKz1; clear HB; have BKz1 := n0_; have HB := n1_; clear n0_ n1_; (try clear hi)))
 go_loopg [8] k (fun kq v8 w' => ∃ (x8_1 : Int), v8 = .int .i64 x8_1 ∧ Aside0 (r8_Open.l0 kq a1 a2 x8_1 a0_0 a0_1 l0_2 l0_3 a0_4 = some (r1, r2)) ∧ Aside0 (kq ≤ k) ∧ Aside0 (w'.heap[gbz1]? = some (.cells #[.string a0_0, .int .i64 a0_1, (.slice A0_2 l0_2.length c0_2), (.slice A0_3 l0_3.length c0_3), .bool a0_4] 50 (0, 0))) ∧ Aside0 (Below w.heap.size w w'))
 case atStart => exact ⟨(0), (by first | rfl | (simp; done) | (simp [*]; done)), H', ⟨Nat.le_refl _⟩, (sk_ BKz1), (sB_ HB)⟩
 clear H'
 try clear p2
 try clear c3
 try clear c4
 try clear c5
 try clear hcz7_0
 try clear hcz7_1
 try clear hcz7_2
 try clear hcz7_3
 try clear hcz7_4
 try clear hfz7_0
 try clear hfz7_1
 try clear hfz7_2
 try clear hfz7_3
 try clear hfz7_4
 obtain ⟨x8_1, rfl, HA, HK1, BKz1, HB⟩ := hrel
 cases gk with
 | zero => exact absurd HA.out (by simp [r8_Open.l0])
 | succ k1 => ?_
 have H := HA.out
 clear HA
 simp only [r8_Open.l0] at H
 by_cases c9 : x8_1 < (l0_3.length : Int)
 rotate_left
 ·rw [if_neg c9] at H
  have c9b0 : decide (x8_1 < (l0_3.length : Int)) = false := decide_eq_false c9
  clear c9
  simp only [Option.some.injEq, Prod.mk.injEq] at H
  obtain ⟨rfl, rfl⟩ := H
  obtain ⟨hcz16_0, hcz16_1, hcz16_2, hcz16_3, hcz16_4⟩ := bc5 BKz1
  obtain ⟨hfz16_0, hfz16_1, hfz16_2, hfz16_3, hfz16_4⟩ := bf5 BKz1
  go_wp2
  go_ret2
  exact ⟨by first | rfl | (simp <;> rfl) | (simp [*] <;> rfl), sC_ HB⟩
 rw [if_pos c9] at H
 have c9b0 : decide (x8_1 < (l0_3.length : Int)) = true := decide_eq_true c9
 clear c9
 by_cases c10 : 0 ≤ x8_1
 rotate_left
 ·rw [if_neg c10] at H
  exact absurd H (by simp)
 rw [if_pos c10] at H
 have c10b0 : decide (0 ≤ x8_1) = true := decide_eq_true c10
 clear c10
 by_cases c11 : ((rd_T74 l0_3 x8_1).f0).toList = a1.toList
 rotate_left
 ·rw [if_neg c11] at H
  have c11b0 : (((rd_T74 l0_3 x8_1).f0).toList == a1.toList) = false := beq_eq_false_iff_ne.mpr c11
  have c11b1 : (((rd_T74 l0_3 x8_1).f0).toList != a1.toList) = true := bne_iff_ne.mpr c11
  have H' := am H
  clear H
  obtain ⟨hcz15_0, hcz15_1, hcz15_2, hcz15_3, hcz15_4⟩ := bc5 BKz1
  obtain ⟨hfz15_0, hfz15_1, hfz15_2, hfz15_3, hfz15_4⟩ := bf5 BKz1
  have pz3 : 0 ≤ (x8_1 : Int) := of_decide_eq_true (by first | (with_reducible assumption) | assumption)
  have qz3 : x8_1 < (l0_3.length : Int) := of_decide_eq_true (by first | (with_reducible assumption) | assumption)
  obtain ⟨adz3, ez3, hxz3_0, hxz3_1, hxz3_2⟩ := at_T74 HR0_3.out x8_1 pz3 qz3
  cases ez3
  replace hxz3_0 := (HB.out.cell (World.block_lt_of_cell? w _ hxz3_0)).trans hxz3_0
  replace hxz3_1 := (HB.out.cell (World.block_lt_of_cell? w _ hxz3_1)).trans hxz3_1
  replace hxz3_2 := (HB.out.cell (World.block_lt_of_cell? w _ hxz3_2)).trans hxz3_2
  replace pz3 := eq_true pz3
  replace qz3 := eq_true qz3
  go_wp2
  go_roundg k1
  case measure => have := HK1.out; omega
  case rel => exact ⟨(wrap64 (x8_1 + 1)), (by first | rfl | (simp; done) | (simp [*]; done)), H', ⟨by have := HK1.out; omega⟩, (sk_ BKz1), (sB_ HB)⟩
 rw [if_pos c11] at H
 have c11b0 : (((rd_T74 l0_3 x8_1).f0).toList == a1.toList) = true := beq_iff_eq.mpr c11
 have c11b1 : (((rd_T74 l0_3 x8_1).f0).toList != a1.toList) = false := bne_eq_false_iff_eq.mpr c11
 clear c11
 by_cases c12 : ((rd_T74 l0_3 x8_1).f2).toList = a2.toList
 rotate_left
 ·rw [if_neg c12] at H
  have c12b0 : (((rd_T74 l0_3 x8_1).f2).toList == a2.toList) = false := beq_eq_false_iff_ne.mpr c12
  have c12b1 : (((rd_T74 l0_3 x8_1).f2).toList != a2.toList) = true := bne_iff_ne.mpr c12
  have H' := am H
  clear H
  obtain ⟨hcz14_0, hcz14_1, hcz14_2, hcz14_3, hcz14_4⟩ := bc5 BKz1
  obtain ⟨hfz14_0, hfz14_1, hfz14_2, hfz14_3, hfz14_4⟩ := bf5 BKz1
  have pz3 : 0 ≤ (x8_1 : Int) := of_decide_eq_true (by first | (with_reducible assumption) | assumption)
  have qz3 : x8_1 < (l0_3.length : Int) := of_decide_eq_true (by first | (with_reducible assumption) | assumption)
  obtain ⟨adz3, ez3, hxz3_0, hxz3_1, hxz3_2⟩ := at_T74 HR0_3.out x8_1 pz3 qz3
  cases ez3
  replace hxz3_0 := (HB.out.cell (World.block_lt_of_cell? w _ hxz3_0)).trans hxz3_0
  replace hxz3_1 := (HB.out.cell (World.block_lt_of_cell? w _ hxz3_1)).trans hxz3_1
  replace hxz3_2 := (HB.out.cell (World.block_lt_of_cell? w _ hxz3_2)).trans hxz3_2
  replace pz3 := eq_true pz3
  replace qz3 := eq_true qz3
  have pz4 : 0 ≤ (x8_1 : Int) := of_decide_eq_true (by first | (with_reducible assumption) | assumption)
  have qz4 : x8_1 < (l0_3.length : Int) := of_decide_eq_true (by first | (with_reducible assumption) | assumption)
  obtain ⟨adz4, ez4, hxz4_0, hxz4_1, hxz4_2⟩ := at_T74 HR0_3.out x8_1 pz4 qz4
  obtain rfl : adz3 = adz4 := (by injection ez4)
  replace hxz4_0 := (HB.out.cell (World.block_lt_of_cell? w _ hxz4_0)).trans hxz4_0
  replace hxz4_1 := (HB.out.cell (World.block_lt_of_cell? w _ hxz4_1)).trans hxz4_1
  replace hxz4_2 := (HB.out.cell (World.block_lt_of_cell? w _ hxz4_2)).trans hxz4_2
  replace pz4 := eq_true pz4
  replace qz4 := eq_true qz4
  go_wp2
  go_roundg k1
  case measure => have := HK1.out; omega
  case rel => exact ⟨(wrap64 (x8_1 + 1)), (by first | rfl | (simp; done) | (simp [*]; done)), H', ⟨by have := HK1.out; omega⟩, (sk_ BKz1), (sB_ HB)⟩
 rw [if_pos c12] at H
 have c12b0 : (((rd_T74 l0_3 x8_1).f2).toList == a2.toList) = true := beq_iff_eq.mpr c12
 have c12b1 : (((rd_T74 l0_3 x8_1).f2).toList != a2.toList) = false := bne_eq_false_iff_eq.mpr c12
 clear c12
 simp only [Option.some.injEq, Prod.mk.injEq] at H
 obtain ⟨rfl, rfl⟩ := H
 obtain ⟨hcz13_0, hcz13_1, hcz13_2, hcz13_3, hcz13_4⟩ := bc5 BKz1
 obtain ⟨hfz13_0, hfz13_1, hfz13_2, hfz13_3, hfz13_4⟩ := bf5 BKz1
 have pz3 : 0 ≤ (x8_1 : Int) := of_decide_eq_true (by first | (with_reducible assumption) | assumption)
 have qz3 : x8_1 < (l0_3.length : Int) := of_decide_eq_true (by first | (with_reducible assumption) | assumption)
 obtain ⟨adz3, ez3, hxz3_0, hxz3_1, hxz3_2⟩ := at_T74 HR0_3.out x8_1 pz3 qz3
 cases ez3
 replace hxz3_0 := (HB.out.cell (World.block_lt_of_cell? w _ hxz3_0)).trans hxz3_0
 replace hxz3_1 := (HB.out.cell (World.block_lt_of_cell? w _ hxz3_1)).trans hxz3_1
 replace hxz3_2 := (HB.out.cell (World.block_lt_of_cell? w _ hxz3_2)).trans hxz3_2
 replace pz3 := eq_true pz3
 replace qz3 := eq_true qz3
 have pz4 : 0 ≤ (x8_1 : Int) := of_decide_eq_true (by first | (with_reducible assumption) | assumption)
 have qz4 : x8_1 < (l0_3.length : Int) := of_decide_eq_true (by first | (with_reducible assumption) | assumption)
 obtain ⟨adz4, ez4, hxz4_0, hxz4_1, hxz4_2⟩ := at_T74 HR0_3.out x8_1 pz4 qz4
 obtain rfl : adz3 = adz4 := (by injection ez4)
 replace hxz4_0 := (HB.out.cell (World.block_lt_of_cell? w _ hxz4_0)).trans hxz4_0
 replace hxz4_1 := (HB.out.cell (World.block_lt_of_cell? w _ hxz4_1)).trans hxz4_1
 replace hxz4_2 := (HB.out.cell (World.block_lt_of_cell? w _ hxz4_2)).trans hxz4_2
 replace pz4 := eq_true pz4
 replace qz4 := eq_true qz4
 have pz5 : 0 ≤ (x8_1 : Int) := of_decide_eq_true (by first | (with_reducible assumption) | assumption)
 have qz5 : x8_1 < (l0_3.length : Int) := of_decide_eq_true (by first | (with_reducible assumption) | assumption)
 obtain ⟨adz5, ez5, hxz5_0, hxz5_1, hxz5_2⟩ := at_T74 HR0_3.out x8_1 pz5 qz5
 obtain rfl : adz3 = adz5 := (by injection ez5)
 replace hxz5_0 := (HB.out.cell (World.block_lt_of_cell? w _ hxz5_0)).trans hxz5_0
 replace hxz5_1 := (HB.out.cell (World.block_lt_of_cell? w _ hxz5_1)).trans hxz5_1
 replace hxz5_2 := (HB.out.cell (World.block_lt_of_cell? w _ hxz5_2)).trans hxz5_2
 replace pz5 := eq_true pz5
 replace qz5 := eq_true qz5
 go_wp2
 go_ret2
 exact ⟨by first | rfl | (simp <;> rfl) | (simp [*] <;> rfl), sC_ HB⟩
end Go.Proofs.Ytmkncddbecmlpaa.Pr
end
section
namespace Go.Proofs.Ytmkncddbecmlpaa.Pr
open Go.Proofs.Ytmkncddbecmlpaa.Sq Go.RowKit Go.Proofs.YtmkncddbecmlpaaW.PrintWords Go.Proofs.YtmkncddbecmlpaaW.PrintLast Go.Proofs.YtmkncddbecmlpaaW.PrintMore
attribute [local go_sem] max2_int min2_int max_two min_two max_three min_three max_four min_four
set_option linter.unusedVariables false
set_option linter.unusedSimpArgs false
def u8_Ask.f (k : Nat) (a0_0 : ByteArray) (a0_1 : Int) (l0_2 : List (S72)) (l0_3 : List (S74)) (a0_4 : Bool) (a1_0 : Int) (a1_1 : Int) (a1_2 : Int) : Option (ByteArray × Int × (List (S72)) × (List (S74)) × Bool) := (u8_pick.f a1_0 2).bind fun tz5 => (if tz5 = 0 then ((u8_pick.f a1_1 6).bind fun tz6 => ((r8_Label.f k a0_0 a0_1 l0_2 l0_3 a0_4 (strOfNums (([(tz6) % 256] : List Int)))).bind fun btz10 => (some (btz10.2.1, btz10.2.2.1, btz10.2.2.2.1, btz10.2.2.2.2.1, btz10.2.2.2.2.2.1)))) else ((u8_Label.f a1_1).bind fun tz21 => ((u8_Text.f a1_2).bind fun tz22 => ((r8_Seal.f k a0_0 a0_1 l0_2 l0_3 a0_4 tz21 tz22).bind fun btz23 => (some (btz23.2.1, btz23.2.2.1, btz23.2.2.2.1, btz23.2.2.2.2.1, btz23.2.2.2.2.2.1))))))
def u8_Ask.T3 : Bool × List (List Nat × List Nat) := (true, [([], []), ([], []), ([1], [1]), ([2], [2]), ([3], [3]), ([4], [4]), ([5], [5]), ([0, 6, 3], [0, 6]), ([7], [7]), ([8], [8]), ([8], [8]), ([8], [8]), ([10, 7, 0, 1, 2, 3, 4, 5, 6, 7, 8, 9, 10], [10])])
def u8_Ask.B3 : List Nat := [0, 0, 2, 6, 14, 30, 62, 127, 255, 511, 511, 511, 2047]
theorem u8_Ask.tab3 : rtab .any (opsOf Try.f48 3) = u8_Ask.T3 := by kernel_rfl
theorem u8_Ask.bits3 : waitsOk u8_Ask.T3.2 u8_Ask.B3 = true := by kernel_rfl
def u8_Ask.T4 : Bool × List (List Nat × List Nat) := (true, [([], []), ([], []), ([1], [1]), ([2], [2]), ([], []), ([4], [4]), ([5, 3], [5]), ([0, 3, 6, 6], [0, 3, 6]), ([7], [7]), ([8], [8]), ([8], [8]), ([8], [8]), ([10, 7, 0, 1, 2, 3, 4, 5, 6, 7, 8, 9, 10], [10])])
def u8_Ask.B4 : List Nat := [0, 0, 2, 6, 0, 16, 62, 127, 255, 511, 511, 511, 2047]
theorem u8_Ask.tab4 : rtab .any (opsOf Try.f48 4) = u8_Ask.T4 := by kernel_rfl
theorem u8_Ask.bits4 : waitsOk u8_Ask.T4.2 u8_Ask.B4 = true := by kernel_rfl
set_option maxHeartbeats 8000000 in
set_option maxRecDepth 100000 in
theorem u8_Ask.calls (k : Nat) (a0_0 : ByteArray) (a0_1 : Int) (A0_2 : Option Addr) (c0_2 : Nat) (l0_2 : List (S72)) (A0_3 : Option Addr) (c0_3 : Nat) (l0_3 : List (S74)) (a0_4 : Bool) (a1_0 : Int) (a1_1 : Int) (a1_2 : Int) (r1 : ByteArray) (r2 : Int) (r3 : List (S72)) (r4 : List (S74)) (r5 : Bool) (w : World) (hr0_2 : Kd.C k72 w A0_2 l0_2.length l0_2) (hc0_2 : l0_2.length ≤ c0_2) (hr0_3 : Kd.C k74 w A0_3 l0_3.length l0_3) (hc0_3 : l0_3.length ≤ c0_3) (h : u8_Ask.f k a0_0 a0_1 l0_2 l0_3 a0_4 a1_0 a1_1 a1_2 = some (r1, r2, r3, r4, r5)) :
  Calls Try.prog 48 #[.agg #[.string a0_0, .int .i64 a0_1, .slice A0_2 l0_2.length c0_2, .slice A0_3 l0_3.length c0_3, .bool a0_4], .agg #[.int .i64 a1_0, .int .i64 a1_1, .int .i64 a1_2]] w fun e w' => ∃ v2_ v3_ : Value, e = .returned (.agg #[.string r1, .int .i64 r2, v2_, v3_, .bool r5]) ∧ Kd.R k72 72 w' w.heap.size (fun _ => True) v2_ r3 ∧ Kd.R k74 74 w' w.heap.size (fun _ => True) v3_ r4 ∧ Below w.heap.size w w' := by
 have hu50 := Try.underlying50
 have hu46 := Try.underlying46
 have HR0_2 := am hr0_2
 have HC0_2 := am hc0_2
 clear hr0_2 hc0_2
 have HR0_3 := am hr0_3
 have HC0_3 := am hc0_3
 clear hr0_3 hc0_3
 have HB := am (Below.refl w.heap.size w)
 have H : ((u8_pick.f a1_0 2).bind fun tz5 => (if tz5 = 0 then ((u8_pick.f a1_1 6).bind fun tz6 => ((r8_Label.f k a0_0 a0_1 l0_2 l0_3 a0_4 (strOfNums (([(tz6) % 256] : List Int)))).bind fun btz10 => (some (btz10.2.1, btz10.2.2.1, btz10.2.2.2.1, btz10.2.2.2.2.1, btz10.2.2.2.2.2.1)))) else ((u8_Label.f a1_1).bind fun tz21 => ((u8_Text.f a1_2).bind fun tz22 => ((r8_Seal.f k a0_0 a0_1 l0_2 l0_3 a0_4 tz21 tz22).bind fun btz23 => (some (btz23.2.1, btz23.2.2.1, btz23.2.2.2.1, btz23.2.2.2.2.1, btz23.2.2.2.2.2.1))))))) = some (r1, r2, r3, r4, r5) := h
 clear h
 replace H := ob_ H
 obtain ⟨tz5, A30, H⟩ := H
 replace H : (if tz5 = 0 then ((u8_pick.f a1_1 6).bind fun tz6 => ((r8_Label.f k a0_0 a0_1 l0_2 l0_3 a0_4 (strOfNums (([(tz6) % 256] : List Int)))).bind fun btz10 => (some (btz10.2.1, btz10.2.2.1, btz10.2.2.2.1, btz10.2.2.2.2.1, btz10.2.2.2.2.2.1)))) else ((u8_Label.f a1_1).bind fun tz21 => ((u8_Text.f a1_2).bind fun tz22 => ((r8_Seal.f k a0_0 a0_1 l0_2 l0_3 a0_4 tz21 tz22).bind fun btz23 => (some (btz23.2.1, btz23.2.2.1, btz23.2.2.2.1, btz23.2.2.2.2.1, btz23.2.2.2.2.2.1)))))) = some (r1, r2, r3, r4, r5) := H
 have A3 := Aside0.mk A30
 clear A30
 by_cases c4 : tz5 = 0
 ·rw [if_pos c4] at H
  have c4b0 : (tz5 == 0) = true := beq_iff_eq.mpr c4
  have c4b1 : (tz5 != 0) = false := bne_eq_false_iff_eq.mpr c4
  clear c4
  replace H := ob_ H
  obtain ⟨tz6, A50, H⟩ := H
  replace H : ((r8_Label.f k a0_0 a0_1 l0_2 l0_3 a0_4 (strOfNums (([(tz6) % 256] : List Int)))).bind fun btz10 => (some (btz10.2.1, btz10.2.2.1, btz10.2.2.2.1, btz10.2.2.2.2.1, btz10.2.2.2.2.2.1))) = some (r1, r2, r3, r4, r5) := H
  have A5 := Aside0.mk A50
  clear A50
  obtain ⟨yz7, hyz7⟩ : ∃ y_ : List Int, y_ = (([(tz6) % 256] : List Int)) := ⟨_, rfl⟩
  replace H : ((r8_Label.f k a0_0 a0_1 l0_2 l0_3 a0_4 (strOfNums yz7)).bind fun btz10 => (some (btz10.2.1, btz10.2.2.1, btz10.2.2.2.1, btz10.2.2.2.2.1, btz10.2.2.2.2.2.1))) = some (r1, r2, r3, r4, r5) := by first | (rw [hyz7]; with_reducible exact H) | (have H2_ := (Option.bind_some _ _).symm.trans H; rw [hyz7]; with_reducible exact H2_) | (have H2_ := (Option.bind_some _ _).symm.trans H; with_reducible exact H2_) | with_reducible exact H | (rw [hyz7]; exact H) | exact H
  have Nyz7 := am hyz7
  clear hyz7
  replace H := ob_ H
  obtain ⟨⟨tz10, tz11, tz12, tz13, tz16, tz19, tz20⟩, A60, H⟩ := H
  replace H : (some (tz11, tz12, tz13, tz16, tz19)) = some (r1, r2, r3, r4, r5) := H
  have A6 := Aside0.mk A60
  clear A60
  simp only [Option.some.injEq, Prod.mk.injEq] at H
  obtain ⟨rfl, rfl, rfl, rfl, rfl⟩ := H
  go_enter Try.func48, Try.ntmps48
  try go_wp2_with (first | ((with_reducible refine gate_dst (N := 2) rfl ?_); refine box_event ?hg (N := 2) ?hd (cs := #[.string a0_0, .int .i64 a0_1, .slice A0_2 l0_2.length c0_2, .slice A0_3 l0_3.length c0_3, .bool a0_4]) (t := 50) ?hr ?_; (case hd => rfl); (case hg => rfl); (case hr => first | (go_simp; done) | (go_simp; rfl)); intro gbz1 hg w7 hbox hb; have n0_ := am (below_step (pb HB) hb); have n1_ := am (hbox); have n2_ := ge_ hg (pb HB); have n3_ := ge_ hg (pb HB); clear HB; have HB := n0_; have BKz1 := n1_; have GWz1 := n2_; have GEz1 := n3_; clear n0_ n1_ n2_ n3_; clear hb hbox hg) | ((with_reducible refine gate_dst (N := 3) rfl ?_); refine box_event ?hg (N := 3) ?hd (cs := #[.int .i64 a1_0, .int .i64 a1_1, .int .i64 a1_2]) (t := 46) ?hr ?_; (case hd => rfl); (case hg => rfl); (case hr => first | (go_simp; done) | (go_simp; rfl)); intro gbz2 hg w8 hbox hb; have n0_ := am (bkB (pk BKz1) hb); have n1_ := am (below_step (sC_ HB) hb); have n2_ := am (hbox); have n3_ := ge_ hg (sC_ HB); have n4_ := ge_ hg (sC_ HB); have n5_ := nl_ hg BKz1; have n6_ := ng_ hg BKz1; clear BKz1; clear HB; have BKz1 := n0_; have HB := n1_; have BKz2 := n2_; have GWz2 := n3_; have GEz2 := n4_; have NBz1_z2 := n5_; have NBz2_z1 := n6_; clear n0_ n1_ n2_ n3_ n4_ n5_ n6_; clear hb hbox hg) | ((with_reducible refine gate_dst (N := 4) rfl ?_); refine box_event ?hg (N := 4) ?hd (cs := #[.string (⟨#[]⟩ : ByteArray), .int .i64 0, .slice none 0 0, .slice none 0 0, .bool false]) (t := 50) ?hr ?_; (case hd => rfl); (case hg => rfl); (case hr => first | (go_simp; done) | (go_simp; rfl)); intro gbz3 hg w9 hbox hb; have n0_ := am (bkB (pk BKz1) hb); have n1_ := am (bkB (pk BKz2) hb); have n2_ := am (below_step (sC_ HB) hb); have n3_ := am (hbox); have n4_ := ge_ hg (sC_ HB); have n5_ := ge_ hg (sC_ HB); have n6_ := nl_ hg BKz1; have n7_ := ng_ hg BKz1; have n8_ := nl_ hg BKz2; have n9_ := ng_ hg BKz2; clear BKz1; clear BKz2; clear HB; have BKz1 := n0_; have BKz2 := n1_; have HB := n2_; have BKz3 := n3_; have GWz3 := n4_; have GEz3 := n5_; have NBz1_z3 := n6_; have NBz3_z1 := n7_; have NBz2_z3 := n8_; have NBz3_z2 := n9_; clear n0_ n1_ n2_ n3_ n4_ n5_ n6_ n7_ n8_ n9_; clear hb hbox hg; have hnb10 := NBz1_z2.out; have hnc10 := NBz2_z1.out; have hnb11 := NBz1_z3.out; have hnc11 := NBz3_z1.out; obtain ⟨hcz12_0, hcz12_1, hcz12_2, hcz12_3, hcz12_4⟩ := bc5 BKz1; obtain ⟨hfz12_0, hfz12_1, hfz12_2, hfz12_3, hfz12_4⟩ := bf5 BKz1) | ((with_reducible refine gate_dst (N := 5) rfl ?_); refine box_event ?hg (N := 5) ?hd (cs := #[.string (⟨#[]⟩ : ByteArray), .int .i64 0, .slice none 0 0, .slice none 0 0, .bool false]) (t := 50) ?hr ?_; (case hd => rfl); (case hg => rfl); (case hr => first | (go_simp; done) | (go_simp; rfl)); intro gbz4 hg w13 hbox hb; have n0_ := am (bkB (pk BKz1) hb); have n1_ := am (bkB (pk BKz2) hb); have n2_ := am (bkB (g := gbz3) (o := .cells #[.string (⟨#[]⟩ : ByteArray), .int .i64 0, .slice none 0 0, .slice none 0 0, .bool false] 50 (0, 0)) (pk BKz3) hb); have n3_ := am (below_step (sC_ HB) hb); have n4_ := am (hbox); have n5_ := ge_ hg (sC_ HB); have n6_ := ge_ hg (sC_ HB); have n7_ := nl_ hg BKz1; have n8_ := ng_ hg BKz1; have n9_ := nl_ hg BKz2; have n10_ := ng_ hg BKz2; have n11_ := am ((by rw [hg]; exact Nat.ne_of_lt (blk_lt (g := gbz3) (o := .cells #[.string (⟨#[]⟩ : ByteArray), .int .i64 0, .slice none 0 0, .slice none 0 0, .bool false] 50 (0, 0)) (pk BKz3)) : gbz3 ≠ gbz4)); have n12_ := am ((by rw [hg]; exact Nat.ne_of_gt (blk_lt (g := gbz3) (o := .cells #[.string (⟨#[]⟩ : ByteArray), .int .i64 0, .slice none 0 0, .slice none 0 0, .bool false] 50 (0, 0)) (pk BKz3)) : gbz4 ≠ gbz3)); clear BKz1; clear BKz2; clear BKz3; clear HB; have BKz1 := n0_; have BKz2 := n1_; have BKz3 := n2_; have HB := n3_; have BKz4 := n4_; have GWz4 := n5_; have GEz4 := n6_; have NBz1_z4 := n7_; have NBz4_z1 := n8_; have NBz2_z4 := n9_; have NBz4_z2 := n10_; have NBz3_z4 := n11_; have NBz4_z3 := n12_; clear n0_ n1_ n2_ n3_ n4_ n5_ n6_ n7_ n8_ n9_ n10_ n11_ n12_; clear hb hbox hg; have hnb14 := NBz4_z1.out; have hnc14 := NBz1_z4.out; have hnb15 := NBz4_z2.out; have hnc15 := NBz2_z4.out; have hnb16 := NBz4_z3.out; have hnc16 := NBz3_z4.out; obtain ⟨hcz17_0, hcz17_1, hcz17_2, hcz17_3, hcz17_4⟩ := bc5 BKz4; obtain ⟨hfz17_0, hfz17_1, hfz17_2, hfz17_3, hfz17_4⟩ := bf5 BKz4; have hnb18 := NBz2_z3.out; have hnc18 := NBz3_z2.out; obtain ⟨hcz19_0, hcz19_1, hcz19_2⟩ := bc3 BKz2; obtain ⟨hfz19_0, hfz19_1, hfz19_2⟩ := bf3 BKz2) | ((with_reducible refine gate_callee (f := 34) rfl ?_); refine goesL_ (some 9) rfl rfl Try.func34 (by kernel_rfl) rfl #[.int .i64 a1_0, .int .i64 2] rfl (by (try simp only [List.map_toArray, List.map_cons, List.map_nil]) <;> rfl) ?_; (with_reducible refine (u8_pick.calls a1_0 2 tz5 _ A3.out).mono ?_); rintro e w' ⟨rfl, ⟨nd, rfl⟩⟩; refine ⟨_, rfl, ?_⟩))
  have n0_ : Aside0 ((((((w13.setCell ⟨gbz4, 0, none⟩ (.string a0_0)).setCell ⟨gbz4, 1, none⟩ (.int .i64 a0_1)).setCell ⟨gbz4, 2, none⟩ (.slice A0_2 l0_2.length c0_2)).setCell ⟨gbz4, 3, none⟩ (.slice A0_3 l0_3.length c0_3)).setCell ⟨gbz4, 4, none⟩ (.bool a0_4)).heap[gbz1]? = some (.cells #[.string a0_0, .int .i64 a0_1, .slice A0_2 l0_2.length c0_2, .slice A0_3 l0_3.length c0_3, .bool a0_4] 50 (0, 0))) := ⟨by (with_reducible repeat (first | refine blk_drewN ?_ _ | refine bkD ?_ | refine bkA ?_ _)); refine br5 ?_ NBz1_z4; (with_reducible repeat (first | refine blk_drewN ?_ _ | refine bkD ?_ | refine bkA ?_ _)); exact BKz1.out⟩
  have n1_ : Aside0 ((((((w13.setCell ⟨gbz4, 0, none⟩ (.string a0_0)).setCell ⟨gbz4, 1, none⟩ (.int .i64 a0_1)).setCell ⟨gbz4, 2, none⟩ (.slice A0_2 l0_2.length c0_2)).setCell ⟨gbz4, 3, none⟩ (.slice A0_3 l0_3.length c0_3)).setCell ⟨gbz4, 4, none⟩ (.bool a0_4)).heap[gbz2]? = some (.cells #[.int .i64 a1_0, .int .i64 a1_1, .int .i64 a1_2] 46 (0, 0))) := ⟨by (with_reducible repeat (first | refine blk_drewN ?_ _ | refine bkD ?_ | refine bkA ?_ _)); refine br5 ?_ NBz2_z4; (with_reducible repeat (first | refine blk_drewN ?_ _ | refine bkD ?_ | refine bkA ?_ _)); exact BKz2.out⟩
  have n2_ : Aside0 ((((((w13.setCell ⟨gbz4, 0, none⟩ (.string a0_0)).setCell ⟨gbz4, 1, none⟩ (.int .i64 a0_1)).setCell ⟨gbz4, 2, none⟩ (.slice A0_2 l0_2.length c0_2)).setCell ⟨gbz4, 3, none⟩ (.slice A0_3 l0_3.length c0_3)).setCell ⟨gbz4, 4, none⟩ (.bool a0_4)).heap[gbz3]? = some (.cells #[.string (⟨#[]⟩ : ByteArray), .int .i64 0, .slice none 0 0, .slice none 0 0, .bool false] 50 (0, 0))) := ⟨by (with_reducible repeat (first | refine blk_drewN ?_ _ | refine bkD ?_ | refine bkA ?_ _)); refine br5 ?_ NBz3_z4; (with_reducible repeat (first | refine blk_drewN ?_ _ | refine bkD ?_ | refine bkA ?_ _)); exact BKz3.out⟩
  have n3_ : Aside0 ((((((w13.setCell ⟨gbz4, 0, none⟩ (.string a0_0)).setCell ⟨gbz4, 1, none⟩ (.int .i64 a0_1)).setCell ⟨gbz4, 2, none⟩ (.slice A0_2 l0_2.length c0_2)).setCell ⟨gbz4, 3, none⟩ (.slice A0_3 l0_3.length c0_3)).setCell ⟨gbz4, 4, none⟩ (.bool a0_4)).heap[gbz4]? = some (.cells #[.string a0_0, .int .i64 a0_1, .slice A0_2 l0_2.length c0_2, .slice A0_3 l0_3.length c0_3, .bool a0_4] 50 (0, 0))) := ⟨by (with_reducible repeat (first | refine blk_drewN ?_ _ | refine bkD ?_ | refine bkA ?_ _)); apply bp5; (with_reducible repeat (first | refine blk_drewN ?_ _ | refine bkD ?_ | refine bkA ?_ _)); exact BKz4.out⟩
  have n4_ : Aside0 (Below w.heap.size w (((((w13.setCell ⟨gbz4, 0, none⟩ (.string a0_0)).setCell ⟨gbz4, 1, none⟩ (.int .i64 a0_1)).setCell ⟨gbz4, 2, none⟩ (.slice A0_2 l0_2.length c0_2)).setCell ⟨gbz4, 3, none⟩ (.slice A0_3 l0_3.length c0_3)).setCell ⟨gbz4, 4, none⟩ (.bool a0_4))) := (sB_ HB)
  (try clear BKz1); (try clear BKz2); (try clear BKz3); (try clear BKz4); (try clear HB)
  generalize (((((w13.setCell ⟨gbz4, 0, none⟩ (.string a0_0)).setCell ⟨gbz4, 1, none⟩ (.int .i64 a0_1)).setCell ⟨gbz4, 2, none⟩ (.slice A0_2 l0_2.length c0_2)).setCell ⟨gbz4, 3, none⟩ (.slice A0_3 l0_3.length c0_3)).setCell ⟨gbz4, 4, none⟩ (.bool a0_4)) = w20 at n0_ n1_ n2_ n3_ n4_ ⊢
  have BKz1 := n0_; have BKz2 := n1_; have BKz3 := n2_; have BKz4 := n3_; have HB := n4_; clear n0_ n1_ n2_ n3_ n4_
  (try (rw [drewN_self w20]; generalize hq_ : World.drewN w20 _ = w20; have n0_ : Aside0 (w20.heap[gbz1]? = some (.cells #[.string a0_0, .int .i64 a0_1, .slice A0_2 l0_2.length c0_2, .slice A0_3 l0_3.length c0_3, .bool a0_4] 50 (0, 0))) := ⟨by rw [← hq_]; exact (pk BKz1)⟩; have n1_ : Aside0 (w20.heap[gbz2]? = some (.cells #[.int .i64 a1_0, .int .i64 a1_1, .int .i64 a1_2] 46 (0, 0))) := ⟨by rw [← hq_]; exact (pk BKz2)⟩; have n2_ : Aside0 (w20.heap[gbz3]? = some (.cells #[.string (⟨#[]⟩ : ByteArray), .int .i64 0, .slice none 0 0, .slice none 0 0, .bool false] 50 (0, 0))) := ⟨by rw [← hq_]; exact (pk BKz3)⟩; have n3_ : Aside0 (w20.heap[gbz4]? = some (.cells #[.string a0_0, .int .i64 a0_1, .slice A0_2 l0_2.length c0_2, .slice A0_3 l0_3.length c0_3, .bool a0_4] 50 (0, 0))) := ⟨by rw [← hq_]; exact (pk BKz4)⟩; have n4_ : Aside0 (Below w.heap.size w w20) := ⟨by rw [← hq_]; exact (sC_ HB)⟩; clear BKz1 BKz2 BKz3 BKz4 HB hq_; have BKz1 := n0_; have BKz2 := n1_; have BKz3 := n2_; have BKz4 := n3_; have HB := n4_; clear n0_ n1_ n2_ n3_ n4_))
  have n0_ := am (bkD BKz1.out)
  have n1_ := am (bkD BKz2.out)
  have n2_ := am (bkD BKz3.out)
  have n3_ := am (bkD BKz4.out)
  have n4_ := am (below_drew1 HB.out)
  clear BKz1 BKz2 BKz3 BKz4 HB; have BKz1 := n0_; have BKz2 := n1_; have BKz3 := n2_; have BKz4 := n3_; have HB := n4_; clear n0_ n1_ n2_ n3_ n4_
  refine start_ (n := 13) (S := fun w' => w'.cell? ⟨gbz1, 0, none⟩ = some (.string a0_0) ∧ w'.cell? ⟨gbz1, 1, none⟩ = some (.int .i64 a0_1) ∧ w'.cell? ⟨gbz1, 2, none⟩ = some (.slice A0_2 l0_2.length c0_2) ∧ w'.cell? ⟨gbz1, 3, none⟩ = some (.slice A0_3 l0_3.length c0_3) ∧ w'.cell? ⟨gbz1, 4, none⟩ = some (.bool a0_4) ∧ w'.cell? ⟨gbz2, 0, none⟩ = some (.int .i64 a1_0) ∧ w'.cell? ⟨gbz2, 1, none⟩ = some (.int .i64 a1_1) ∧ w'.cell? ⟨gbz2, 2, none⟩ = some (.int .i64 a1_2)) (ds := []) #[false, false, false, false, false, false, false, false, false, false, false, false, false] (by kernel_rfl) rfl rfl ⟨(blk_cell BKz1.out 0).trans rfl, (blk_cell BKz1.out 1).trans rfl, (blk_cell BKz1.out 2).trans rfl, (blk_cell BKz1.out 3).trans rfl, (blk_cell BKz1.out 4).trans rfl, (blk_cell BKz2.out 0).trans rfl, (blk_cell BKz2.out 1).trans rfl, (blk_cell BKz2.out 2).trans rfl⟩ (fun hHeld => ?_); refine with_tabW u8_Ask.tab3 u8_Ask.bits3 (fun HT_ HW_ => ?_)
  generalize w20.drew = w21 at BKz1 BKz2 BKz3 BKz4 HB hHeld ⊢
  refine pv_ 1 (some 13) HT_ ?_
  refine tk_ 0 (some 12) HT_ HW_ rfl rfl (.inl ⟨by rfl, by rintro w' ⟨s0, s1, s2, s3, s4, s5, s6, s7⟩; go_simp; with_reducible rfl⟩) hHeld (by simp only [Act.put, sa_, s0_, s1_, i64_w, i32_w]; rfl) ?_
  refine tk_ 2 (some 14) HT_ HW_ rfl rfl (.inl ⟨by rfl, by rintro w' ⟨s0, s1, s2, s3, s4, s5, s6, s7⟩; go_simp; with_reducible rfl⟩) hHeld (by simp only [Act.put, sa_, s0_, s1_, i64_w, i32_w]; rfl) ?_
  refine on_ 3 (some 15) HT_ rfl rfl (fun K hK => ?_)
  refine goes_ Try.func34 (by kernel_rfl) rfl #[.int .i64 a1_1, .int .i64 6] (by rfl) rfl rfl (by (try simp only [List.map_toArray, List.map_cons, List.map_nil]) <;> rfl) ?_
  with_reducible refine (u8_pick.calls a1_1 6 tz6 _ A5.out).mono ?_
  rintro e w' ⟨rfl, ⟨nd, rfl⟩⟩
  refine ⟨_, rfl, ?_⟩
  refine hK.out _ _ ⟨(blk_cell BKz1.out 0).trans rfl, (blk_cell BKz1.out 1).trans rfl, (blk_cell BKz1.out 2).trans rfl, (blk_cell BKz1.out 3).trans rfl, (blk_cell BKz1.out 4).trans rfl, (blk_cell BKz2.out 0).trans rfl, (blk_cell BKz2.out 1).trans rfl, (blk_cell BKz2.out 2).trans rfl⟩ (fun hHeld => ?_)
  clear hK K
  refine norm_ (by show Act.put _ (some 15) _ = _; simp only [Act.put, sa_, s0_, s1_, i64_w, i32_w]; rfl) ?_
  refine pv_ 4 (some 16) HT_ ?_
  refine on_ 5 (some 17) HT_ rfl rfl (fun K hK => ?_)
  refine Kd.R_lit_step (Kd.int .u8) _ 5 ?hg (N := 17) ?hd (xs := ([(tz6) % 256] : List Int)) (inner := [.int .u8 ((tz6) % 256)]) (ok := fun _ => True) (okp := fun _ => True) ?hr ?hp (fun _ hk => hk) trivial (Below.refl _ _) (Nat.le_refl _) (by simp) ?_; (case hd => rfl); (case hg => rfl); (case hr => first | (go_simp; done) | (go_simp; rfl)); (case hp => exact (Reps.one (show Kd.M (Kd.int .u8) _ _ _ ((tz6) % 256) [.int .u8 ((tz6) % 256)] from rfl) (Reps.none _ _)))
  intro vz8 w22 ho23 hb hg_ hnew_
  clear hg_ hnew_
  (first | rw [← Nyz7.out] at ho23 | (simp only [Int.reduceToNat] at ho23; rw [← Nyz7.out] at ho23))
  have n0_ := am (Kd.R_lower ho23 (below_size (sC_ HB)))
  have n1_ := am (bkB (pk BKz1) hb)
  have n2_ := am (bkB (pk BKz2) hb)
  have n3_ := am (bkB (g := gbz3) (o := .cells #[.string (⟨#[]⟩ : ByteArray), .int .i64 0, .slice none 0 0, .slice none 0 0, .bool false] 50 (0, 0)) (pk BKz3) hb)
  have n4_ := am (bkB (pk BKz4) hb)
  have n5_ := am (below_step (sC_ HB) hb)
  clear BKz1 BKz2 BKz3 BKz4 HB; have HOz9 := n0_; have BKz1 := n1_; have BKz2 := n2_; have BKz3 := n3_; have BKz4 := n4_; have HB := n5_; clear n0_ n1_ n2_ n3_ n4_ n5_; clear hb ho23
  refine hK.out _ _ ⟨(blk_cell BKz1.out 0).trans rfl, (blk_cell BKz1.out 1).trans rfl, (blk_cell BKz1.out 2).trans rfl, (blk_cell BKz1.out 3).trans rfl, (blk_cell BKz1.out 4).trans rfl, (blk_cell BKz2.out 0).trans rfl, (blk_cell BKz2.out 1).trans rfl, (blk_cell BKz2.out 2).trans rfl⟩ (fun hHeld => ?_)
  clear hK K
  refine norm_ (by show Act.put _ (some 17) _ = _; simp only [Act.put, sa_, s0_, s1_, i64_w, i32_w]; rfl) ?_
  refine on_ 6 (some 18) HT_ rfl rfl (fun K hK => ?_)
  have hcv24 := own_string (P := Try.prog) Try.underlying57 Try.underlying5 Try.underlying9 (Kd.own_of_R HOz9.out)
  refine value_ (w1 := ?_) (v := ?_) (by rfl) rfl ?_ ?_
  rotate_left 2
  ·go_simp
   constructor
   rotate_left
   ·rfl
   rfl
  clear hcv24
  refine hK.out _ _ ⟨(blk_cell BKz1.out 0).trans rfl, (blk_cell BKz1.out 1).trans rfl, (blk_cell BKz1.out 2).trans rfl, (blk_cell BKz1.out 3).trans rfl, (blk_cell BKz1.out 4).trans rfl, (blk_cell BKz2.out 0).trans rfl, (blk_cell BKz2.out 1).trans rfl, (blk_cell BKz2.out 2).trans rfl⟩ (fun hHeld => ?_)
  clear hK K
  refine norm_ (by show Act.put _ (some 18) _ = _; simp only [Act.put, sa_, s0_, s1_, i64_w, i32_w]; rfl) ?_
  refine on_ 7 (some 19) HT_ rfl rfl (fun K hK => ?_)
  refine goes_ Try.func36 (by kernel_rfl) rfl #[.agg #[.string a0_0, .int .i64 a0_1, .slice A0_2 l0_2.length c0_2, .slice A0_3 l0_3.length c0_3, .bool a0_4], .string (strOfNums yz7)] (by rfl) rfl rfl (by (try simp only [List.map_toArray, List.map_cons, List.map_nil]) <;> rfl) ?_
  with_reducible refine (r8_Label.calls k a0_0 a0_1 _ _ l0_2 _ _ l0_3 a0_4 (strOfNums yz7) tz10 tz11 tz12 tz13 tz16 tz19 tz20 _ ?side1 ?side2 ?side3 ?side4 A6.out).mono ?_
  (case side1 => repeat (first | exact (Kd.C_below HR0_2.out HB.out) | (with_reducible refine Kd.C_alloc ?_ _) | (with_reducible refine Kd.C_drewN ?_ _) | (with_reducible refine Kd.C_drew ?_)))
  (case side2 => exact HC0_2.out)
  (case side3 => repeat (first | exact (Kd.C_below HR0_3.out HB.out) | (with_reducible refine Kd.C_alloc ?_ _) | (with_reducible refine Kd.C_drewN ?_ _) | (with_reducible refine Kd.C_drew ?_)))
  (case side4 => exact HC0_3.out)
  rintro e w25 ⟨vz14, vz17, rfl, ho0, ho1, hb⟩
  refine ⟨_, rfl, ?_⟩
  have n0_ := am (Kd.R_below (pr HOz9) hb)
  have n1_ := am (Kd.R_lower ho0 (below_size (sC_ HB)))
  have n2_ := am (Kd.R_lower ho1 (below_size (sC_ HB)))
  have n3_ := am (bkB (pk BKz1) hb)
  have n4_ := am (bkB (pk BKz2) hb)
  have n5_ := am (bkB (g := gbz3) (o := .cells #[.string (⟨#[]⟩ : ByteArray), .int .i64 0, .slice none 0 0, .slice none 0 0, .bool false] 50 (0, 0)) (pk BKz3) hb)
  have n6_ := am (bkB (pk BKz4) hb)
  have n7_ := am (below_step (sC_ HB) hb)
  clear HOz9 BKz1 BKz2 BKz3 BKz4 HB; have HOz9 := n0_; have HOz15 := n1_; have HOz18 := n2_; have BKz1 := n3_; have BKz2 := n4_; have BKz3 := n5_; have BKz4 := n6_; have HB := n7_; clear n0_ n1_ n2_ n3_ n4_ n5_ n6_ n7_; obtain ⟨Ao28, co28, eo28⟩ := Kd.R_slice HOz15.out
  (first | subst eo28 | (injection eo28 with f1_ f2_ f3_; have f4_ := f1_.symm; have f5_ := f3_.symm; clear f1_ f2_ f3_; subst f4_; subst f5_))
  obtain ⟨Ao30, co30, eo30⟩ := Kd.R_slice HOz18.out
  (first | subst eo30 | (injection eo30 with f1_ f2_ f3_; have f4_ := f1_.symm; have f5_ := f3_.symm; clear f1_ f2_ f3_; subst f4_; subst f5_))
  refine hK.out _ _ ⟨(blk_cell BKz1.out 0).trans rfl, (blk_cell BKz1.out 1).trans rfl, (blk_cell BKz1.out 2).trans rfl, (blk_cell BKz1.out 3).trans rfl, (blk_cell BKz1.out 4).trans rfl, (blk_cell BKz2.out 0).trans rfl, (blk_cell BKz2.out 1).trans rfl, (blk_cell BKz2.out 2).trans rfl⟩ (fun hHeld => ?_)
  clear hK K
  refine norm_ (by show Act.put _ (some 19) _ = _; simp only [Act.put, sa_, s0_, s1_, i64_w, i32_w]; rfl) ?_
  refine pv_ 8 (some 11) HT_ ?_
  refine pv_ 9 (some 20) HT_ ?_
  refine pv_ 10 (some 21) HT_ ?_
  refine pv_ 11 (some 22) HT_ ?_
  refine on_ 12 none HT_ rfl rfl (fun K hK => ?_)
  have hs26 : w25.cell? ⟨gbz4, 0, none⟩ = some (.string a0_0) := (blk_cell BKz4.out 0).trans rfl
  have hfs26 := blk_frozen BKz4.out 0
  have := NBz1_z4.out
  have := NBz2_z4.out
  have := NBz3_z4.out
  have := NBz4_z1.out
  have := NBz4_z2.out
  have := NBz4_z3.out
  have hs27 : w25.cell? ⟨gbz4, 1, none⟩ = some (.int .i64 a0_1) := (blk_cell BKz4.out 1).trans rfl
  have hfs27 := blk_frozen BKz4.out 1
  have := NBz1_z4.out
  have := NBz2_z4.out
  have := NBz3_z4.out
  have := NBz4_z1.out
  have := NBz4_z2.out
  have := NBz4_z3.out
  have hs29 : w25.cell? ⟨gbz4, 2, none⟩ = some (.slice A0_2 l0_2.length c0_2) := (blk_cell BKz4.out 2).trans rfl
  have hfs29 := blk_frozen BKz4.out 2
  have := NBz1_z4.out
  have := NBz2_z4.out
  have := NBz3_z4.out
  have := NBz4_z1.out
  have := NBz4_z2.out
  have := NBz4_z3.out
  have hs31 : w25.cell? ⟨gbz4, 3, none⟩ = some (.slice A0_3 l0_3.length c0_3) := (blk_cell BKz4.out 3).trans rfl
  have hfs31 := blk_frozen BKz4.out 3
  have := NBz1_z4.out
  have := NBz2_z4.out
  have := NBz3_z4.out
  have := NBz4_z1.out
  have := NBz4_z2.out
  have := NBz4_z3.out
  have hs32 : w25.cell? ⟨gbz4, 4, none⟩ = some (.bool a0_4) := (blk_cell BKz4.out 4).trans rfl
  have hfs32 := blk_frozen BKz4.out 4
  have := NBz1_z4.out
  have := NBz2_z4.out
  have := NBz3_z4.out
  have := NBz4_z1.out
  have := NBz4_z2.out
  have := NBz4_z3.out
  refine skip_ (by rfl) rfl (by go_simp; rfl) ?_
  refine hK.out _ _ ⟨((cf5 NBz1_z4).trans (hHeld.1)), ((cf5 NBz1_z4).trans (hHeld.2.1)), ((cf5 NBz1_z4).trans (hHeld.2.2.1)), ((cf5 NBz1_z4).trans (hHeld.2.2.2.1)), ((cf5 NBz1_z4).trans (hHeld.2.2.2.2.1)), ((cf5 NBz2_z4).trans (hHeld.2.2.2.2.2.1)), ((cf5 NBz2_z4).trans (hHeld.2.2.2.2.2.2.1)), ((cf5 NBz2_z4).trans (hHeld.2.2.2.2.2.2.2))⟩ (fun hHeld => ?_)
  clear hK K
  refine done_ (done_of HT_.out (by kernel_rfl)) ?_
  obtain ⟨hcz33_0, hcz33_1, hcz33_2, hcz33_3, hcz33_4⟩ := bc5 BKz4
  obtain ⟨hfz33_0, hfz33_1, hfz33_2, hfz33_3, hfz33_4⟩ := bf5 BKz4
  obtain ⟨hcz34_0, hcz34_1, hcz34_2, hcz34_3, hcz34_4⟩ := bc5 BKz3
  obtain ⟨hfz34_0, hfz34_1, hfz34_2, hfz34_3, hfz34_4⟩ := bf5 BKz3
  try go_wp2
  refine bodyPost_ret (results_cell_row rfl _ _ gbz3 50 #[.string tz11, .int .i64 tz12, .slice Ao28 tz13.length co28, .slice Ao30 tz16.length co30, .bool tz19] (0, 0) _ rfl (by (with_reducible repeat (first | refine blk_drewN ?_ _ | refine bkD ?_ | refine bkA ?_ _)); apply bp5; refine br5 ?_ NBz3_z4; exact pk BKz3) Try.underlying50 rfl (by kernel_rfl)) rfl ?_
  exact ⟨_, _, by first | rfl | (simp <;> rfl) | (simp [*] <;> rfl), by (with_reducible repeat first | apply ra | apply rn | apply rd); exact Kd.R_mono (rf5 (rf5 (Kd.R_types (Kd.R_types HOz15.out BKz4.out (by decide)) BKz3.out (by decide)) (fun _ hk => hk.1.2)) (fun _ hk => hk.2)) (fun _ hk => trivial), by (with_reducible repeat first | apply ra | apply rn | apply rd); exact Kd.R_mono (rf5 (rf5 (Kd.R_types (Kd.R_types HOz18.out BKz4.out (by decide)) BKz3.out (by decide)) (fun _ hk => hk.1.2)) (fun _ hk => hk.2)) (fun _ hk => trivial), sC_ HB⟩
 rw [if_neg c4] at H
 have c4b0 : (tz5 == 0) = false := beq_eq_false_iff_ne.mpr c4
 have c4b1 : (tz5 != 0) = true := bne_iff_ne.mpr c4
 replace H := ob_ H
 obtain ⟨tz21, A350, H⟩ := H
 replace H : ((u8_Text.f a1_2).bind fun tz22 => ((r8_Seal.f k a0_0 a0_1 l0_2 l0_3 a0_4 tz21 tz22).bind fun btz23 => (some (btz23.2.1, btz23.2.2.1, btz23.2.2.2.1, btz23.2.2.2.2.1, btz23.2.2.2.2.2.1)))) = some (r1, r2, r3, r4, r5) := H
 have A35 := Aside0.mk A350
 clear A350
 replace H := ob_ H
 obtain ⟨tz22, A360, H⟩ := H
 replace H : ((r8_Seal.f k a0_0 a0_1 l0_2 l0_3 a0_4 tz21 tz22).bind fun btz23 => (some (btz23.2.1, btz23.2.2.1, btz23.2.2.2.1, btz23.2.2.2.2.1, btz23.2.2.2.2.2.1))) = some (r1, r2, r3, r4, r5) := H
 have A36 := Aside0.mk A360
 clear A360
 replace H := ob_ H
 obtain ⟨⟨tz23, tz24, tz25, tz26, tz29, tz32, tz33⟩, A370, H⟩ := H
 replace H : (some (tz24, tz25, tz26, tz29, tz32)) = some (r1, r2, r3, r4, r5) := H
 have A37 := Aside0.mk A370
 clear A370
 simp only [Option.some.injEq, Prod.mk.injEq] at H
 obtain ⟨rfl, rfl, rfl, rfl, rfl⟩ := H
 go_enter Try.func48, Try.ntmps48
 try go_wp2_with (first | ((with_reducible refine gate_dst (N := 2) rfl ?_); refine box_event ?hg (N := 2) ?hd (cs := #[.string a0_0, .int .i64 a0_1, .slice A0_2 l0_2.length c0_2, .slice A0_3 l0_3.length c0_3, .bool a0_4]) (t := 50) ?hr ?_; (case hd => rfl); (case hg => rfl); (case hr => first | (go_simp; done) | (go_simp; rfl)); intro gbz1 hg w38 hbox hb; have n0_ := am (below_step (pb HB) hb); have n1_ := am (hbox); have n2_ := ge_ hg (pb HB); have n3_ := ge_ hg (pb HB); clear HB; have HB := n0_; have BKz1 := n1_; have GWz1 := n2_; have GEz1 := n3_; clear n0_ n1_ n2_ n3_; clear hb hbox hg) | ((with_reducible refine gate_dst (N := 3) rfl ?_); refine box_event ?hg (N := 3) ?hd (cs := #[.int .i64 a1_0, .int .i64 a1_1, .int .i64 a1_2]) (t := 46) ?hr ?_; (case hd => rfl); (case hg => rfl); (case hr => first | (go_simp; done) | (go_simp; rfl)); intro gbz2 hg w39 hbox hb; have n0_ := am (bkB (pk BKz1) hb); have n1_ := am (below_step (sC_ HB) hb); have n2_ := am (hbox); have n3_ := ge_ hg (sC_ HB); have n4_ := ge_ hg (sC_ HB); have n5_ := nl_ hg BKz1; have n6_ := ng_ hg BKz1; clear BKz1; clear HB; have BKz1 := n0_; have HB := n1_; have BKz2 := n2_; have GWz2 := n3_; have GEz2 := n4_; have NBz1_z2 := n5_; have NBz2_z1 := n6_; clear n0_ n1_ n2_ n3_ n4_ n5_ n6_; clear hb hbox hg) | ((with_reducible refine gate_dst (N := 4) rfl ?_); refine box_event ?hg (N := 4) ?hd (cs := #[.string (⟨#[]⟩ : ByteArray), .int .i64 0, .slice none 0 0, .slice none 0 0, .bool false]) (t := 50) ?hr ?_; (case hd => rfl); (case hg => rfl); (case hr => first | (go_simp; done) | (go_simp; rfl)); intro gbz3 hg w40 hbox hb; have n0_ := am (bkB (pk BKz1) hb); have n1_ := am (bkB (pk BKz2) hb); have n2_ := am (below_step (sC_ HB) hb); have n3_ := am (hbox); have n4_ := ge_ hg (sC_ HB); have n5_ := ge_ hg (sC_ HB); have n6_ := nl_ hg BKz1; have n7_ := ng_ hg BKz1; have n8_ := nl_ hg BKz2; have n9_ := ng_ hg BKz2; clear BKz1; clear BKz2; clear HB; have BKz1 := n0_; have BKz2 := n1_; have HB := n2_; have BKz3 := n3_; have GWz3 := n4_; have GEz3 := n5_; have NBz1_z3 := n6_; have NBz3_z1 := n7_; have NBz2_z3 := n8_; have NBz3_z2 := n9_; clear n0_ n1_ n2_ n3_ n4_ n5_ n6_ n7_ n8_ n9_; clear hb hbox hg; have hnb41 := NBz1_z2.out; have hnc41 := NBz2_z1.out; have hnb42 := NBz1_z3.out; have hnc42 := NBz3_z1.out; obtain ⟨hcz43_0, hcz43_1, hcz43_2, hcz43_3, hcz43_4⟩ := bc5 BKz1; obtain ⟨hfz43_0, hfz43_1, hfz43_2, hfz43_3, hfz43_4⟩ := bf5 BKz1) | ((with_reducible refine gate_dst (N := 5) rfl ?_); refine box_event ?hg (N := 5) ?hd (cs := #[.string (⟨#[]⟩ : ByteArray), .int .i64 0, .slice none 0 0, .slice none 0 0, .bool false]) (t := 50) ?hr ?_; (case hd => rfl); (case hg => rfl); (case hr => first | (go_simp; done) | (go_simp; rfl)); intro gbz4 hg w44 hbox hb; have n0_ := am (bkB (pk BKz1) hb); have n1_ := am (bkB (pk BKz2) hb); have n2_ := am (bkB (g := gbz3) (o := .cells #[.string (⟨#[]⟩ : ByteArray), .int .i64 0, .slice none 0 0, .slice none 0 0, .bool false] 50 (0, 0)) (pk BKz3) hb); have n3_ := am (below_step (sC_ HB) hb); have n4_ := am (hbox); have n5_ := ge_ hg (sC_ HB); have n6_ := ge_ hg (sC_ HB); have n7_ := nl_ hg BKz1; have n8_ := ng_ hg BKz1; have n9_ := nl_ hg BKz2; have n10_ := ng_ hg BKz2; have n11_ := am ((by rw [hg]; exact Nat.ne_of_lt (blk_lt (g := gbz3) (o := .cells #[.string (⟨#[]⟩ : ByteArray), .int .i64 0, .slice none 0 0, .slice none 0 0, .bool false] 50 (0, 0)) (pk BKz3)) : gbz3 ≠ gbz4)); have n12_ := am ((by rw [hg]; exact Nat.ne_of_gt (blk_lt (g := gbz3) (o := .cells #[.string (⟨#[]⟩ : ByteArray), .int .i64 0, .slice none 0 0, .slice none 0 0, .bool false] 50 (0, 0)) (pk BKz3)) : gbz4 ≠ gbz3)); clear BKz1; clear BKz2; clear BKz3; clear HB; have BKz1 := n0_; have BKz2 := n1_; have BKz3 := n2_; have HB := n3_; have BKz4 := n4_; have GWz4 := n5_; have GEz4 := n6_; have NBz1_z4 := n7_; have NBz4_z1 := n8_; have NBz2_z4 := n9_; have NBz4_z2 := n10_; have NBz3_z4 := n11_; have NBz4_z3 := n12_; clear n0_ n1_ n2_ n3_ n4_ n5_ n6_ n7_ n8_ n9_ n10_ n11_ n12_; clear hb hbox hg; have hnb45 := NBz4_z1.out; have hnc45 := NBz1_z4.out; have hnb46 := NBz4_z2.out; have hnc46 := NBz2_z4.out; have hnb47 := NBz4_z3.out; have hnc47 := NBz3_z4.out; obtain ⟨hcz48_0, hcz48_1, hcz48_2, hcz48_3, hcz48_4⟩ := bc5 BKz4; obtain ⟨hfz48_0, hfz48_1, hfz48_2, hfz48_3, hfz48_4⟩ := bf5 BKz4; have hnb49 := NBz2_z3.out; have hnc49 := NBz3_z2.out; obtain ⟨hcz50_0, hcz50_1, hcz50_2⟩ := bc3 BKz2; obtain ⟨hfz50_0, hfz50_1, hfz50_2⟩ := bf3 BKz2) | ((with_reducible refine gate_callee (f := 34) rfl ?_); refine goesL_ (some 9) rfl rfl Try.func34 (by kernel_rfl) rfl #[.int .i64 a1_0, .int .i64 2] rfl (by (try simp only [List.map_toArray, List.map_cons, List.map_nil]) <;> rfl) ?_; (with_reducible refine (u8_pick.calls a1_0 2 tz5 _ A3.out).mono ?_); rintro e w' ⟨rfl, ⟨nd, rfl⟩⟩; refine ⟨_, rfl, ?_⟩))
 have n0_ : Aside0 ((((((w44.setCell ⟨gbz4, 0, none⟩ (.string a0_0)).setCell ⟨gbz4, 1, none⟩ (.int .i64 a0_1)).setCell ⟨gbz4, 2, none⟩ (.slice A0_2 l0_2.length c0_2)).setCell ⟨gbz4, 3, none⟩ (.slice A0_3 l0_3.length c0_3)).setCell ⟨gbz4, 4, none⟩ (.bool a0_4)).heap[gbz1]? = some (.cells #[.string a0_0, .int .i64 a0_1, .slice A0_2 l0_2.length c0_2, .slice A0_3 l0_3.length c0_3, .bool a0_4] 50 (0, 0))) := ⟨by (with_reducible repeat (first | refine blk_drewN ?_ _ | refine bkD ?_ | refine bkA ?_ _)); refine br5 ?_ NBz1_z4; (with_reducible repeat (first | refine blk_drewN ?_ _ | refine bkD ?_ | refine bkA ?_ _)); exact BKz1.out⟩
 have n1_ : Aside0 ((((((w44.setCell ⟨gbz4, 0, none⟩ (.string a0_0)).setCell ⟨gbz4, 1, none⟩ (.int .i64 a0_1)).setCell ⟨gbz4, 2, none⟩ (.slice A0_2 l0_2.length c0_2)).setCell ⟨gbz4, 3, none⟩ (.slice A0_3 l0_3.length c0_3)).setCell ⟨gbz4, 4, none⟩ (.bool a0_4)).heap[gbz2]? = some (.cells #[.int .i64 a1_0, .int .i64 a1_1, .int .i64 a1_2] 46 (0, 0))) := ⟨by (with_reducible repeat (first | refine blk_drewN ?_ _ | refine bkD ?_ | refine bkA ?_ _)); refine br5 ?_ NBz2_z4; (with_reducible repeat (first | refine blk_drewN ?_ _ | refine bkD ?_ | refine bkA ?_ _)); exact BKz2.out⟩
 have n2_ : Aside0 ((((((w44.setCell ⟨gbz4, 0, none⟩ (.string a0_0)).setCell ⟨gbz4, 1, none⟩ (.int .i64 a0_1)).setCell ⟨gbz4, 2, none⟩ (.slice A0_2 l0_2.length c0_2)).setCell ⟨gbz4, 3, none⟩ (.slice A0_3 l0_3.length c0_3)).setCell ⟨gbz4, 4, none⟩ (.bool a0_4)).heap[gbz3]? = some (.cells #[.string (⟨#[]⟩ : ByteArray), .int .i64 0, .slice none 0 0, .slice none 0 0, .bool false] 50 (0, 0))) := ⟨by (with_reducible repeat (first | refine blk_drewN ?_ _ | refine bkD ?_ | refine bkA ?_ _)); refine br5 ?_ NBz3_z4; (with_reducible repeat (first | refine blk_drewN ?_ _ | refine bkD ?_ | refine bkA ?_ _)); exact BKz3.out⟩
 have n3_ : Aside0 ((((((w44.setCell ⟨gbz4, 0, none⟩ (.string a0_0)).setCell ⟨gbz4, 1, none⟩ (.int .i64 a0_1)).setCell ⟨gbz4, 2, none⟩ (.slice A0_2 l0_2.length c0_2)).setCell ⟨gbz4, 3, none⟩ (.slice A0_3 l0_3.length c0_3)).setCell ⟨gbz4, 4, none⟩ (.bool a0_4)).heap[gbz4]? = some (.cells #[.string a0_0, .int .i64 a0_1, .slice A0_2 l0_2.length c0_2, .slice A0_3 l0_3.length c0_3, .bool a0_4] 50 (0, 0))) := ⟨by (with_reducible repeat (first | refine blk_drewN ?_ _ | refine bkD ?_ | refine bkA ?_ _)); apply bp5; (with_reducible repeat (first | refine blk_drewN ?_ _ | refine bkD ?_ | refine bkA ?_ _)); exact BKz4.out⟩
 have n4_ : Aside0 (Below w.heap.size w (((((w44.setCell ⟨gbz4, 0, none⟩ (.string a0_0)).setCell ⟨gbz4, 1, none⟩ (.int .i64 a0_1)).setCell ⟨gbz4, 2, none⟩ (.slice A0_2 l0_2.length c0_2)).setCell ⟨gbz4, 3, none⟩ (.slice A0_3 l0_3.length c0_3)).setCell ⟨gbz4, 4, none⟩ (.bool a0_4))) := (sB_ HB)
 (try clear BKz1); (try clear BKz2); (try clear BKz3); (try clear BKz4); (try clear HB)
 generalize (((((w44.setCell ⟨gbz4, 0, none⟩ (.string a0_0)).setCell ⟨gbz4, 1, none⟩ (.int .i64 a0_1)).setCell ⟨gbz4, 2, none⟩ (.slice A0_2 l0_2.length c0_2)).setCell ⟨gbz4, 3, none⟩ (.slice A0_3 l0_3.length c0_3)).setCell ⟨gbz4, 4, none⟩ (.bool a0_4)) = w51 at n0_ n1_ n2_ n3_ n4_ ⊢
 have BKz1 := n0_; have BKz2 := n1_; have BKz3 := n2_; have BKz4 := n3_; have HB := n4_; clear n0_ n1_ n2_ n3_ n4_
 (try (rw [drewN_self w51]; generalize hq_ : World.drewN w51 _ = w51; have n0_ : Aside0 (w51.heap[gbz1]? = some (.cells #[.string a0_0, .int .i64 a0_1, .slice A0_2 l0_2.length c0_2, .slice A0_3 l0_3.length c0_3, .bool a0_4] 50 (0, 0))) := ⟨by rw [← hq_]; exact (pk BKz1)⟩; have n1_ : Aside0 (w51.heap[gbz2]? = some (.cells #[.int .i64 a1_0, .int .i64 a1_1, .int .i64 a1_2] 46 (0, 0))) := ⟨by rw [← hq_]; exact (pk BKz2)⟩; have n2_ : Aside0 (w51.heap[gbz3]? = some (.cells #[.string (⟨#[]⟩ : ByteArray), .int .i64 0, .slice none 0 0, .slice none 0 0, .bool false] 50 (0, 0))) := ⟨by rw [← hq_]; exact (pk BKz3)⟩; have n3_ : Aside0 (w51.heap[gbz4]? = some (.cells #[.string a0_0, .int .i64 a0_1, .slice A0_2 l0_2.length c0_2, .slice A0_3 l0_3.length c0_3, .bool a0_4] 50 (0, 0))) := ⟨by rw [← hq_]; exact (pk BKz4)⟩; have n4_ : Aside0 (Below w.heap.size w w51) := ⟨by rw [← hq_]; exact (sC_ HB)⟩; clear BKz1 BKz2 BKz3 BKz4 HB hq_; have BKz1 := n0_; have BKz2 := n1_; have BKz3 := n2_; have BKz4 := n3_; have HB := n4_; clear n0_ n1_ n2_ n3_ n4_))
 have n0_ := am (bkD BKz1.out)
 have n1_ := am (bkD BKz2.out)
 have n2_ := am (bkD BKz3.out)
 have n3_ := am (bkD BKz4.out)
 have n4_ := am (below_drew1 HB.out)
 clear BKz1 BKz2 BKz3 BKz4 HB; have BKz1 := n0_; have BKz2 := n1_; have BKz3 := n2_; have BKz4 := n3_; have HB := n4_; clear n0_ n1_ n2_ n3_ n4_
 refine start_ (n := 13) (S := fun w' => w'.cell? ⟨gbz1, 0, none⟩ = some (.string a0_0) ∧ w'.cell? ⟨gbz1, 1, none⟩ = some (.int .i64 a0_1) ∧ w'.cell? ⟨gbz1, 2, none⟩ = some (.slice A0_2 l0_2.length c0_2) ∧ w'.cell? ⟨gbz1, 3, none⟩ = some (.slice A0_3 l0_3.length c0_3) ∧ w'.cell? ⟨gbz1, 4, none⟩ = some (.bool a0_4) ∧ w'.cell? ⟨gbz2, 0, none⟩ = some (.int .i64 a1_0) ∧ w'.cell? ⟨gbz2, 1, none⟩ = some (.int .i64 a1_1) ∧ w'.cell? ⟨gbz2, 2, none⟩ = some (.int .i64 a1_2)) (ds := []) #[false, false, false, false, false, false, false, false, false, false, false, false, false] (by kernel_rfl) rfl rfl ⟨(blk_cell BKz1.out 0).trans rfl, (blk_cell BKz1.out 1).trans rfl, (blk_cell BKz1.out 2).trans rfl, (blk_cell BKz1.out 3).trans rfl, (blk_cell BKz1.out 4).trans rfl, (blk_cell BKz2.out 0).trans rfl, (blk_cell BKz2.out 1).trans rfl, (blk_cell BKz2.out 2).trans rfl⟩ (fun hHeld => ?_); refine with_tabW u8_Ask.tab4 u8_Ask.bits4 (fun HT_ HW_ => ?_)
 generalize w51.drew = w52 at BKz1 BKz2 BKz3 BKz4 HB hHeld ⊢
 refine pv_ 1 (some 25) HT_ ?_
 refine pv_ 4 (some 28) HT_ ?_
 refine tk_ 0 (some 24) HT_ HW_ rfl rfl (.inl ⟨by rfl, by rintro w' ⟨s0, s1, s2, s3, s4, s5, s6, s7⟩; go_simp; with_reducible rfl⟩) hHeld (by simp only [Act.put, sa_, s0_, s1_, i64_w, i32_w]; rfl) ?_
 refine tk_ 2 (some 26) HT_ HW_ rfl rfl (.inl ⟨by rfl, by rintro w' ⟨s0, s1, s2, s3, s4, s5, s6, s7⟩; go_simp; with_reducible rfl⟩) hHeld (by simp only [Act.put, sa_, s0_, s1_, i64_w, i32_w]; rfl) ?_
 refine tk_ 5 (some 29) HT_ HW_ rfl rfl (.inl ⟨by rfl, by rintro w' ⟨s0, s1, s2, s3, s4, s5, s6, s7⟩; go_simp; with_reducible rfl⟩) hHeld (by simp only [Act.put, sa_, s0_, s1_, i64_w, i32_w]; rfl) ?_
 refine on_ 3 (some 27) HT_ rfl rfl (fun K hK => ?_)
 refine goes_ Try.func39 (by kernel_rfl) rfl #[.int .i64 a1_1] (by rfl) rfl rfl (by (try simp only [List.map_toArray, List.map_cons, List.map_nil]) <;> rfl) ?_
 with_reducible refine (u8_Label.calls a1_1 tz21 _ A35.out).mono ?_
 rintro e w53 ⟨rfl, hb⟩
 refine ⟨_, rfl, ?_⟩
 have n0_ := am (bkB (pk BKz1) hb)
 have n1_ := am (bkB (pk BKz2) hb)
 have n2_ := am (bkB (g := gbz3) (o := .cells #[.string (⟨#[]⟩ : ByteArray), .int .i64 0, .slice none 0 0, .slice none 0 0, .bool false] 50 (0, 0)) (pk BKz3) hb)
 have n3_ := am (bkB (pk BKz4) hb)
 have n4_ := am (below_step (sC_ HB) hb)
 clear BKz1 BKz2 BKz3 BKz4 HB; have BKz1 := n0_; have BKz2 := n1_; have BKz3 := n2_; have BKz4 := n3_; have HB := n4_; clear n0_ n1_ n2_ n3_ n4_; refine hK.out _ _ ⟨(blk_cell BKz1.out 0).trans rfl, (blk_cell BKz1.out 1).trans rfl, (blk_cell BKz1.out 2).trans rfl, (blk_cell BKz1.out 3).trans rfl, (blk_cell BKz1.out 4).trans rfl, (blk_cell BKz2.out 0).trans rfl, (blk_cell BKz2.out 1).trans rfl, (blk_cell BKz2.out 2).trans rfl⟩ (fun hHeld => ?_)
 clear hK K
 refine norm_ (by show Act.put _ (some 27) _ = _; simp only [Act.put, sa_, s0_, s1_, i64_w, i32_w]; rfl) ?_
 refine on_ 6 (some 30) HT_ rfl rfl (fun K hK => ?_)
 refine goes_ Try.func40 (by kernel_rfl) rfl #[.int .i64 a1_2] (by rfl) rfl rfl (by (try simp only [List.map_toArray, List.map_cons, List.map_nil]) <;> rfl) ?_
 with_reducible refine (u8_Text.calls a1_2 tz22 _ A36.out).mono ?_
 rintro e w54 ⟨rfl, hb⟩
 refine ⟨_, rfl, ?_⟩
 have n0_ := am (bkB (pk BKz1) hb)
 have n1_ := am (bkB (pk BKz2) hb)
 have n2_ := am (bkB (g := gbz3) (o := .cells #[.string (⟨#[]⟩ : ByteArray), .int .i64 0, .slice none 0 0, .slice none 0 0, .bool false] 50 (0, 0)) (pk BKz3) hb)
 have n3_ := am (bkB (pk BKz4) hb)
 have n4_ := am (below_step (sC_ HB) hb)
 clear BKz1 BKz2 BKz3 BKz4 HB; have BKz1 := n0_; have BKz2 := n1_; have BKz3 := n2_; have BKz4 := n3_; have HB := n4_; clear n0_ n1_ n2_ n3_ n4_; refine hK.out _ _ ⟨(blk_cell BKz1.out 0).trans rfl, (blk_cell BKz1.out 1).trans rfl, (blk_cell BKz1.out 2).trans rfl, (blk_cell BKz1.out 3).trans rfl, (blk_cell BKz1.out 4).trans rfl, (blk_cell BKz2.out 0).trans rfl, (blk_cell BKz2.out 1).trans rfl, (blk_cell BKz2.out 2).trans rfl⟩ (fun hHeld => ?_)
 clear hK K
 refine norm_ (by show Act.put _ (some 30) _ = _; simp only [Act.put, sa_, s0_, s1_, i64_w, i32_w]; rfl) ?_
 refine on_ 7 (some 31) HT_ rfl rfl (fun K hK => ?_)
 refine goes_ Try.func42 (by kernel_rfl) rfl #[.agg #[.string a0_0, .int .i64 a0_1, .slice A0_2 l0_2.length c0_2, .slice A0_3 l0_3.length c0_3, .bool a0_4], .string tz21, .string tz22] (by rfl) rfl rfl (by (try simp only [List.map_toArray, List.map_cons, List.map_nil]) <;> rfl) ?_
 with_reducible refine (r8_Seal.calls k a0_0 a0_1 _ _ l0_2 _ _ l0_3 a0_4 tz21 tz22 tz23 tz24 tz25 tz26 tz29 tz32 tz33 _ ?side1 ?side2 ?side3 ?side4 A37.out).mono ?_
 (case side1 => repeat (first | exact (Kd.C_below HR0_2.out HB.out) | (with_reducible refine Kd.C_alloc ?_ _) | (with_reducible refine Kd.C_drewN ?_ _) | (with_reducible refine Kd.C_drew ?_)))
 (case side2 => exact HC0_2.out)
 (case side3 => repeat (first | exact (Kd.C_below HR0_3.out HB.out) | (with_reducible refine Kd.C_alloc ?_ _) | (with_reducible refine Kd.C_drewN ?_ _) | (with_reducible refine Kd.C_drew ?_)))
 (case side4 => exact HC0_3.out)
 rintro e w55 ⟨vz27, vz30, rfl, ho0, ho1, hb⟩
 refine ⟨_, rfl, ?_⟩
 have n0_ := am (Kd.R_lower ho0 (below_size (sC_ HB)))
 have n1_ := am (Kd.R_lower ho1 (below_size (sC_ HB)))
 have n2_ := am (bkB (pk BKz1) hb)
 have n3_ := am (bkB (pk BKz2) hb)
 have n4_ := am (bkB (g := gbz3) (o := .cells #[.string (⟨#[]⟩ : ByteArray), .int .i64 0, .slice none 0 0, .slice none 0 0, .bool false] 50 (0, 0)) (pk BKz3) hb)
 have n5_ := am (bkB (pk BKz4) hb)
 have n6_ := am (below_step (sC_ HB) hb)
 clear BKz1 BKz2 BKz3 BKz4 HB; have HOz28 := n0_; have HOz31 := n1_; have BKz1 := n2_; have BKz2 := n3_; have BKz3 := n4_; have BKz4 := n5_; have HB := n6_; clear n0_ n1_ n2_ n3_ n4_ n5_ n6_; obtain ⟨Ao58, co58, eo58⟩ := Kd.R_slice HOz28.out
 (first | subst eo58 | (injection eo58 with f1_ f2_ f3_; have f4_ := f1_.symm; have f5_ := f3_.symm; clear f1_ f2_ f3_; subst f4_; subst f5_))
 obtain ⟨Ao60, co60, eo60⟩ := Kd.R_slice HOz31.out
 (first | subst eo60 | (injection eo60 with f1_ f2_ f3_; have f4_ := f1_.symm; have f5_ := f3_.symm; clear f1_ f2_ f3_; subst f4_; subst f5_))
 refine hK.out _ _ ⟨(blk_cell BKz1.out 0).trans rfl, (blk_cell BKz1.out 1).trans rfl, (blk_cell BKz1.out 2).trans rfl, (blk_cell BKz1.out 3).trans rfl, (blk_cell BKz1.out 4).trans rfl, (blk_cell BKz2.out 0).trans rfl, (blk_cell BKz2.out 1).trans rfl, (blk_cell BKz2.out 2).trans rfl⟩ (fun hHeld => ?_)
 clear hK K
 refine norm_ (by show Act.put _ (some 31) _ = _; simp only [Act.put, sa_, s0_, s1_, i64_w, i32_w]; rfl) ?_
 refine pv_ 8 (some 23) HT_ ?_
 refine pv_ 9 (some 32) HT_ ?_
 refine pv_ 10 (some 33) HT_ ?_
 refine pv_ 11 (some 34) HT_ ?_
 refine on_ 12 none HT_ rfl rfl (fun K hK => ?_)
 have hs56 : w55.cell? ⟨gbz4, 0, none⟩ = some (.string a0_0) := (blk_cell BKz4.out 0).trans rfl
 have hfs56 := blk_frozen BKz4.out 0
 have := NBz1_z4.out
 have := NBz2_z4.out
 have := NBz3_z4.out
 have := NBz4_z1.out
 have := NBz4_z2.out
 have := NBz4_z3.out
 have hs57 : w55.cell? ⟨gbz4, 1, none⟩ = some (.int .i64 a0_1) := (blk_cell BKz4.out 1).trans rfl
 have hfs57 := blk_frozen BKz4.out 1
 have := NBz1_z4.out
 have := NBz2_z4.out
 have := NBz3_z4.out
 have := NBz4_z1.out
 have := NBz4_z2.out
 have := NBz4_z3.out
 have hs59 : w55.cell? ⟨gbz4, 2, none⟩ = some (.slice A0_2 l0_2.length c0_2) := (blk_cell BKz4.out 2).trans rfl
 have hfs59 := blk_frozen BKz4.out 2
 have := NBz1_z4.out
 have := NBz2_z4.out
 have := NBz3_z4.out
 have := NBz4_z1.out
 have := NBz4_z2.out
 have := NBz4_z3.out
 have hs61 : w55.cell? ⟨gbz4, 3, none⟩ = some (.slice A0_3 l0_3.length c0_3) := (blk_cell BKz4.out 3).trans rfl
 have hfs61 := blk_frozen BKz4.out 3
 have := NBz1_z4.out
 have := NBz2_z4.out
 have := NBz3_z4.out
 have := NBz4_z1.out
 have := NBz4_z2.out
 have := NBz4_z3.out
 have hs62 : w55.cell? ⟨gbz4, 4, none⟩ = some (.bool a0_4) := (blk_cell BKz4.out 4).trans rfl
 have hfs62 := blk_frozen BKz4.out 4
 have := NBz1_z4.out
 have := NBz2_z4.out
 have := NBz3_z4.out
 have := NBz4_z1.out
 have := NBz4_z2.out
 have := NBz4_z3.out
 refine skip_ (by rfl) rfl (by go_simp; rfl) ?_
 refine hK.out _ _ ⟨((cf5 NBz1_z4).trans (hHeld.1)), ((cf5 NBz1_z4).trans (hHeld.2.1)), ((cf5 NBz1_z4).trans (hHeld.2.2.1)), ((cf5 NBz1_z4).trans (hHeld.2.2.2.1)), ((cf5 NBz1_z4).trans (hHeld.2.2.2.2.1)), ((cf5 NBz2_z4).trans (hHeld.2.2.2.2.2.1)), ((cf5 NBz2_z4).trans (hHeld.2.2.2.2.2.2.1)), ((cf5 NBz2_z4).trans (hHeld.2.2.2.2.2.2.2))⟩ (fun hHeld => ?_)
 clear hK K
 refine done_ (done_of HT_.out (by kernel_rfl)) ?_
 obtain ⟨hcz63_0, hcz63_1, hcz63_2, hcz63_3, hcz63_4⟩ := bc5 BKz4
 obtain ⟨hfz63_0, hfz63_1, hfz63_2, hfz63_3, hfz63_4⟩ := bf5 BKz4
 obtain ⟨hcz64_0, hcz64_1, hcz64_2, hcz64_3, hcz64_4⟩ := bc5 BKz3
 obtain ⟨hfz64_0, hfz64_1, hfz64_2, hfz64_3, hfz64_4⟩ := bf5 BKz3
 try go_wp2
 refine bodyPost_ret (results_cell_row rfl _ _ gbz3 50 #[.string tz24, .int .i64 tz25, .slice Ao58 tz26.length co58, .slice Ao60 tz29.length co60, .bool tz32] (0, 0) _ rfl (by (with_reducible repeat (first | refine blk_drewN ?_ _ | refine bkD ?_ | refine bkA ?_ _)); apply bp5; refine br5 ?_ NBz3_z4; exact pk BKz3) Try.underlying50 rfl (by kernel_rfl)) rfl ?_
 exact ⟨_, _, by first | rfl | (simp <;> rfl) | (simp [*] <;> rfl), by (with_reducible repeat first | apply ra | apply rn | apply rd); exact Kd.R_mono (rf5 (rf5 (Kd.R_types (Kd.R_types HOz28.out BKz4.out (by decide)) BKz3.out (by decide)) (fun _ hk => hk.1.2)) (fun _ hk => hk.2)) (fun _ hk => trivial), by (with_reducible repeat first | apply ra | apply rn | apply rd); exact Kd.R_mono (rf5 (rf5 (Kd.R_types (Kd.R_types HOz31.out BKz4.out (by decide)) BKz3.out (by decide)) (fun _ hk => hk.1.2)) (fun _ hk => hk.2)) (fun _ hk => trivial), sC_ HB⟩
end Go.Proofs.Ytmkncddbecmlpaa.Pr
end
section
namespace Go.Proofs.Ytmkncddbecmlpaa.Pr
open Go.Proofs.Ytmkncddbecmlpaa.Sq Go.RowKit Go.Proofs.YtmkncddbecmlpaaW.PrintWords Go.Proofs.YtmkncddbecmlpaaW.PrintLast Go.Proofs.YtmkncddbecmlpaaW.PrintMore
attribute [local go_sem] max2_int min2_int max_two min_two max_three min_three max_four min_four
set_option linter.unusedVariables false
set_option linter.unusedSimpArgs false
def r8_New.f (a0_0 : ByteArray) (a0_1 : Int) : Option (ByteArray × Int × (List (S72)) × (List (S74)) × Bool × Int) := (r7_Right.f a0_0 a0_1).bind fun tz3 => (if tz3 = true then (some (a0_0, a0_1, ([] : List (S72)), ([] : List (S74)), false, 0)) else (some ((⟨#[]⟩ : ByteArray), 0, ([] : List (S72)), ([] : List (S74)), false, 1)))
set_option maxHeartbeats 8000000 in
set_option maxRecDepth 100000 in
theorem r8_New.calls (a0_0 : ByteArray) (a0_1 : Int) (r1 : ByteArray) (r2 : Int) (r3 : List (S72)) (r4 : List (S74)) (r5 : Bool) (r6 : Int) (w : World) (h : r8_New.f a0_0 a0_1 = some (r1, r2, r3, r4, r5, r6)) :
  Calls Try.prog 31 #[.agg #[.string a0_0, .int .i64 a0_1]] w fun e w' => ∃ v2_ v3_ : Value, e = .returned (.tuple #[.agg #[.string r1, .int .i64 r2, v2_, v3_, .bool r5], .int .i64 r6]) ∧ Kd.R k72 72 w' w.heap.size (fun _ => True) v2_ r3 ∧ Kd.R k74 74 w' w.heap.size (fun _ => True) v3_ r4 ∧ Below w.heap.size w w' := by
 have hu23 := Try.underlying23
 have hu50 := Try.underlying50
 have HB := am (Below.refl w.heap.size w)
 have H : ((r7_Right.f a0_0 a0_1).bind fun tz3 => (if tz3 = true then (some (a0_0, a0_1, ([] : List (S72)), ([] : List (S74)), false, 0)) else (some ((⟨#[]⟩ : ByteArray), 0, ([] : List (S72)), ([] : List (S74)), false, 1)))) = some (r1, r2, r3, r4, r5, r6) := h
 clear h
 replace H := ob_ H
 obtain ⟨tz3, A20, H⟩ := H
 replace H : (if tz3 = true then (some (a0_0, a0_1, ([] : List (S72)), ([] : List (S74)), false, 0)) else (some ((⟨#[]⟩ : ByteArray), 0, ([] : List (S72)), ([] : List (S74)), false, 1))) = some (r1, r2, r3, r4, r5, r6) := H
 have A2 := Aside0.mk A20
 clear A20
 by_cases c3 : tz3 = true
 rotate_left
 ·replace c3 := Bool.eq_false_iff.mpr c3
  subst c3
  have H1 : (some ((⟨#[]⟩ : ByteArray), 0, ([] : List (S72)), ([] : List (S74)), false, 1)) = some (r1, r2, r3, r4, r5, r6) := by rw [if_neg (show ¬ (false = true) by decide)] at H; exact H
  clear H
  have H := H1
  clear H1
  simp only [Option.some.injEq, Prod.mk.injEq] at H
  obtain ⟨rfl, rfl, rfl, rfl, rfl, rfl⟩ := H
  go_enter Try.func31, Try.ntmps31
  go_wp2_with (first | ((with_reducible refine gate_dst (N := 1) rfl ?_); refine box_event ?hg (N := 1) ?hd (cs := #[.string a0_0, .int .i64 a0_1]) (t := 23) ?hr ?_; (case hd => rfl); (case hg => rfl); (case hr => first | (go_simp; done) | (go_simp; rfl)); intro gbz1 hg w11 hbox hb; have n0_ := am (below_step (pb HB) hb); have n1_ := am (hbox); have n2_ := ge_ hg (pb HB); have n3_ := ge_ hg (pb HB); clear HB; have HB := n0_; have BKz1 := n1_; have GWz1 := n2_; have GEz1 := n3_; clear n0_ n1_ n2_ n3_; clear hb hbox hg) | ((with_reducible refine gate_dst (N := 2) rfl ?_); refine box_event ?hg (N := 2) ?hd (cs := #[.string (⟨#[]⟩ : ByteArray), .int .i64 0, .slice none 0 0, .slice none 0 0, .bool false]) (t := 50) ?hr ?_; (case hd => rfl); (case hg => rfl); (case hr => first | (go_simp; done) | (go_simp; rfl)); intro gbz2 hg w12 hbox hb; have n0_ := am (bkB (pk BKz1) hb); have n1_ := am (below_step (sC_ HB) hb); have n2_ := am (hbox); have n3_ := ge_ hg (sC_ HB); have n4_ := ge_ hg (sC_ HB); have n5_ := nl_ hg BKz1; have n6_ := ng_ hg BKz1; clear BKz1; clear HB; have BKz1 := n0_; have HB := n1_; have BKz2 := n2_; have GWz2 := n3_; have GEz2 := n4_; have NBz1_z2 := n5_; have NBz2_z1 := n6_; clear n0_ n1_ n2_ n3_ n4_ n5_ n6_; clear hb hbox hg; have hnb13 := NBz1_z2.out; have hnc13 := NBz2_z1.out; obtain ⟨hcz14_0, hcz14_1⟩ := bc2 BKz1; obtain ⟨hfz14_0, hfz14_1⟩ := bf2 BKz1) | ((with_reducible refine gate_callee (f := 17) rfl ?_); refine goesL_ (some 5) rfl rfl Try.func17 (by kernel_rfl) rfl #[.agg #[.string a0_0, .int .i64 a0_1]] rfl (by (try simp only [List.map_toArray, List.map_cons, List.map_nil]) <;> rfl) ?_; (with_reducible refine (r7_Right.calls a0_0 a0_1 false _ A2.out).mono ?_); rintro e w15 ⟨rfl, hb⟩; refine ⟨_, rfl, ?_⟩; have n0_ := am (bkB (pk BKz1) hb); have n1_ := am (bkB (g := gbz2) (o := .cells #[.string (⟨#[]⟩ : ByteArray), .int .i64 0, .slice none 0 0, .slice none 0 0, .bool false] 50 (0, 0)) (pk BKz2) hb); have n2_ := am (below_step (sC_ HB) hb); clear BKz1; clear BKz2; clear HB; have BKz1 := n0_; have BKz2 := n1_; have HB := n2_; clear n0_ n1_ n2_; obtain ⟨hcz16_0, hcz16_1, hcz16_2, hcz16_3, hcz16_4⟩ := bc5 BKz2; obtain ⟨hfz16_0, hfz16_1, hfz16_2, hfz16_3, hfz16_4⟩ := bf5 BKz2))
  refine bodyPost_ret (results_ct rfl _ _ gbz2 50 #[.string (⟨#[]⟩ : ByteArray), .int .i64 0, .slice none 0 0, .slice none 0 0, .bool false] (0, 0) _ rfl (by (with_reducible repeat (first | refine blk_drewN ?_ _ | refine bkD ?_ | refine bkA ?_ _)); apply bp5; exact pk BKz2) Try.underlying50 rfl (by kernel_rfl)) rfl ?_
  exact ⟨_, _, by first | rfl | (simp <;> rfl) | (simp [*] <;> rfl), by exact Kd.R_nil _ _ _ _ _, by exact Kd.R_nil _ _ _ _ _, sC_ HB⟩
 subst c3
 have H1 : (some (a0_0, a0_1, ([] : List (S72)), ([] : List (S74)), false, 0)) = some (r1, r2, r3, r4, r5, r6) := by rw [if_pos rfl] at H; exact H
 clear H
 have H := H1
 clear H1
 simp only [Option.some.injEq, Prod.mk.injEq] at H
 obtain ⟨rfl, rfl, rfl, rfl, rfl, rfl⟩ := H
 go_enter Try.func31, Try.ntmps31
 go_wp2_with (first | ((with_reducible refine gate_dst (N := 1) rfl ?_); refine box_event ?hg (N := 1) ?hd (cs := #[.string a0_0, .int .i64 a0_1]) (t := 23) ?hr ?_; (case hd => rfl); (case hg => rfl); (case hr => first | (go_simp; done) | (go_simp; rfl)); intro gbz1 hg w4 hbox hb; have n0_ := am (below_step (pb HB) hb); have n1_ := am (hbox); have n2_ := ge_ hg (pb HB); have n3_ := ge_ hg (pb HB); clear HB; have HB := n0_; have BKz1 := n1_; have GWz1 := n2_; have GEz1 := n3_; clear n0_ n1_ n2_ n3_; clear hb hbox hg) | ((with_reducible refine gate_dst (N := 2) rfl ?_); refine box_event ?hg (N := 2) ?hd (cs := #[.string (⟨#[]⟩ : ByteArray), .int .i64 0, .slice none 0 0, .slice none 0 0, .bool false]) (t := 50) ?hr ?_; (case hd => rfl); (case hg => rfl); (case hr => first | (go_simp; done) | (go_simp; rfl)); intro gbz2 hg w5 hbox hb; have n0_ := am (bkB (pk BKz1) hb); have n1_ := am (below_step (sC_ HB) hb); have n2_ := am (hbox); have n3_ := ge_ hg (sC_ HB); have n4_ := ge_ hg (sC_ HB); have n5_ := nl_ hg BKz1; have n6_ := ng_ hg BKz1; clear BKz1; clear HB; have BKz1 := n0_; have HB := n1_; have BKz2 := n2_; have GWz2 := n3_; have GEz2 := n4_; have NBz1_z2 := n5_; have NBz2_z1 := n6_; clear n0_ n1_ n2_ n3_ n4_ n5_ n6_; clear hb hbox hg; have hnb6 := NBz1_z2.out; have hnc6 := NBz2_z1.out; obtain ⟨hcz7_0, hcz7_1⟩ := bc2 BKz1; obtain ⟨hfz7_0, hfz7_1⟩ := bf2 BKz1) | ((with_reducible refine gate_callee (f := 17) rfl ?_); refine goesL_ (some 5) rfl rfl Try.func17 (by kernel_rfl) rfl #[.agg #[.string a0_0, .int .i64 a0_1]] rfl (by (try simp only [List.map_toArray, List.map_cons, List.map_nil]) <;> rfl) ?_; (with_reducible refine (r7_Right.calls a0_0 a0_1 true _ A2.out).mono ?_); rintro e w8 ⟨rfl, hb⟩; refine ⟨_, rfl, ?_⟩; have n0_ := am (bkB (pk BKz1) hb); have n1_ := am (bkB (g := gbz2) (o := .cells #[.string (⟨#[]⟩ : ByteArray), .int .i64 0, .slice none 0 0, .slice none 0 0, .bool false] 50 (0, 0)) (pk BKz2) hb); have n2_ := am (below_step (sC_ HB) hb); clear BKz1; clear BKz2; clear HB; have BKz1 := n0_; have BKz2 := n1_; have HB := n2_; clear n0_ n1_ n2_; obtain ⟨hcz9_0, hcz9_1⟩ := bc2 BKz1; obtain ⟨hfz9_0, hfz9_1⟩ := bf2 BKz1; obtain ⟨hcz10_0, hcz10_1, hcz10_2, hcz10_3, hcz10_4⟩ := bc5 BKz2; obtain ⟨hfz10_0, hfz10_1, hfz10_2, hfz10_3, hfz10_4⟩ := bf5 BKz2))
 refine bodyPost_ret (results_ct rfl _ _ gbz2 50 #[.string a0_0, .int .i64 a0_1, .slice none 0 0, .slice none 0 0, .bool false] (0, 0) _ rfl (by (with_reducible repeat (first | refine blk_drewN ?_ _ | refine bkD ?_ | refine bkA ?_ _)); apply bp5; exact pk BKz2) Try.underlying50 rfl (by kernel_rfl)) rfl ?_
 exact ⟨_, _, by first | rfl | (simp <;> rfl) | (simp [*] <;> rfl), by exact Kd.R_nil _ _ _ _ _, by exact Kd.R_nil _ _ _ _ _, sC_ HB⟩
end Go.Proofs.Ytmkncddbecmlpaa.Pr
end
section
namespace Go.Proofs.Ytmkncddbecmlpaa.Pr
open Go.Proofs.Ytmkncddbecmlpaa.Sq Go.RowKit Go.Proofs.YtmkncddbecmlpaaW.PrintWords Go.Proofs.YtmkncddbecmlpaaW.PrintLast Go.Proofs.YtmkncddbecmlpaaW.PrintMore
attribute [local go_sem] max2_int min2_int max_two min_two max_three min_three max_four min_four
set_option linter.unusedVariables false
set_option linter.unusedSimpArgs false
def u8_Ideal.l0 : Nat → List (S46) → Int → ByteArray → Int → List (S72) → List (S74) → Bool → Option (ByteArray × Int × (List (S72)) × (List (S74)) × Bool)
 | 0, _, _, _, _, _, _, _ => none
 | k + 1, x1, x7, xz14000, xz14001, xz14002, xz14003, xz14004 => if x7 < (x1.length : Int) then (if x7 < 15 then (if 0 ≤ x7 then ((u8_Ask.f k xz14000 xz14001 xz14002 xz14003 xz14004 ((rd_T46 x1 x7).f0) ((rd_T46 x1 x7).f1) ((rd_T46 x1 x7).f2)).bind fun btz15 => (u8_Ideal.l0 k x1 (wrap64 (x7 + 1)) btz15.1 btz15.2.1 btz15.2.2.1 btz15.2.2.2.1 btz15.2.2.2.2)) else (none)) else (some (xz14000, xz14001, xz14002, xz14003, xz14004))) else (some (xz14000, xz14001, xz14002, xz14003, xz14004))
def u8_Ideal.f (k : Nat) (a0_0 : ByteArray) (a0_1 : Int) (l1 : List (S46)) : Option (ByteArray × Int × (List (S72)) × (List (S74)) × Bool) := (r8_New.f a0_0 a0_1).bind fun btz3 => (u8_Ideal.l0 k l1 0 btz3.1 btz3.2.1 btz3.2.2.1 btz3.2.2.2.1 btz3.2.2.2.2.1)
set_option maxHeartbeats 8000000 in
set_option maxRecDepth 100000 in
theorem u8_Ideal.calls (k : Nat) (a0_0 : ByteArray) (a0_1 : Int) (A1 : Option Addr) (c1 : Nat) (l1 : List (S46)) (r1 : ByteArray) (r2 : Int) (r3 : List (S72)) (r4 : List (S74)) (r5 : Bool) (w : World) (hr1 : Kd.C k46 w A1 l1.length l1) (hc1 : l1.length ≤ c1) (h : u8_Ideal.f k a0_0 a0_1 l1 = some (r1, r2, r3, r4, r5)) :
  Calls Try.prog 33 #[.agg #[.string a0_0, .int .i64 a0_1], .slice A1 l1.length c1] w fun e w' => ∃ v2_ v3_ : Value, e = .returned (.agg #[.string r1, .int .i64 r2, v2_, v3_, .bool r5]) ∧ Kd.R k72 72 w' w.heap.size (fun _ => True) v2_ r3 ∧ Kd.R k74 74 w' w.heap.size (fun _ => True) v3_ r4 ∧ Below w.heap.size w w' := by
 have hu23 := Try.underlying23
 have hu50 := Try.underlying50
 have hu46 := Try.underlying46
 have HR1 := am hr1
 have HC1 := am hc1
 clear hr1 hc1
 have HB := am (Below.refl w.heap.size w)
 have H : ((r8_New.f a0_0 a0_1).bind fun btz3 => (u8_Ideal.l0 k l1 0 btz3.1 btz3.2.1 btz3.2.2.1 btz3.2.2.2.1 btz3.2.2.2.2.1)) = some (r1, r2, r3, r4, r5) := h
 clear h
 replace H := ob_ H
 obtain ⟨⟨tz3, tz4, tz5, tz8, tz11, tz12⟩, A30, H⟩ := H
 replace H : (u8_Ideal.l0 k l1 0 tz3 tz4 tz5 tz8 tz11) = some (r1, r2, r3, r4, r5) := H
 have A3 := Aside0.mk A30
 clear A30
 have H' := am H
 clear H
 go_enter Try.func33, Try.ntmps33
 go_wp2_with (first | ((with_reducible refine gate_dst (N := 2) rfl ?_); refine box_event ?hg (N := 2) ?hd (cs := #[.string a0_0, .int .i64 a0_1]) (t := 23) ?hr ?_; (case hd => rfl); (case hg => rfl); (case hr => first | (go_simp; done) | (go_simp; rfl)); intro gbz1 hg w4 hbox hb; have n0_ := am (below_step (pb HB) hb); have n1_ := am (hbox); have n2_ := ge_ hg (pb HB); have n3_ := ge_ hg (pb HB); clear HB; have HB := n0_; have BKz1 := n1_; have GWz1 := n2_; have GEz1 := n3_; clear n0_ n1_ n2_ n3_; clear hb hbox hg) | ((with_reducible refine gate_dst (N := 4) rfl ?_); refine box_event ?hg (N := 4) ?hd (cs := #[.string (⟨#[]⟩ : ByteArray), .int .i64 0, .slice none 0 0, .slice none 0 0, .bool false]) (t := 50) ?hr ?_; (case hd => rfl); (case hg => rfl); (case hr => first | (go_simp; done) | (go_simp; rfl)); intro gbz2 hg w5 hbox hb; have n0_ := am (bkB (pk BKz1) hb); have n1_ := am (below_step (sC_ HB) hb); have n2_ := am (hbox); have n3_ := ge_ hg (sC_ HB); have n4_ := ge_ hg (sC_ HB); have n5_ := nl_ hg BKz1; have n6_ := ng_ hg BKz1; clear BKz1; clear HB; have BKz1 := n0_; have HB := n1_; have BKz2 := n2_; have GWz2 := n3_; have GEz2 := n4_; have NBz1_z2 := n5_; have NBz2_z1 := n6_; clear n0_ n1_ n2_ n3_ n4_ n5_ n6_; clear hb hbox hg; have hnb6 := NBz1_z2.out; have hnc6 := NBz2_z1.out; obtain ⟨hcz7_0, hcz7_1⟩ := bc2 BKz1; obtain ⟨hfz7_0, hfz7_1⟩ := bf2 BKz1) | ((with_reducible refine gate_callee (f := 31) rfl ?_); refine goesL_ (some 10) rfl rfl Try.func31 (by kernel_rfl) rfl #[.agg #[.string a0_0, .int .i64 a0_1]] rfl (by (try simp only [List.map_toArray, List.map_cons, List.map_nil]) <;> rfl) ?_; (with_reducible refine (r8_New.calls a0_0 a0_1 tz3 tz4 tz5 tz8 tz11 tz12 _ A3.out).mono ?_); rintro e w8 ⟨vz6, vz9, rfl, ho0, ho1, hb⟩; refine ⟨_, rfl, ?_⟩; have n0_ := am (Kd.R_lower ho0 (below_size (sC_ HB))); have n1_ := am (Kd.R_lower ho1 (below_size (sC_ HB))); have n2_ := am (bkB (pk BKz1) hb); have n3_ := am (bkB (g := gbz2) (o := .cells #[.string (⟨#[]⟩ : ByteArray), .int .i64 0, .slice none 0 0, .slice none 0 0, .bool false] 50 (0, 0)) (pk BKz2) hb); have n4_ := am (below_step (sC_ HB) hb); clear BKz1; clear BKz2; clear HB; have HOz7 := n0_; have HOz10 := n1_; have BKz1 := n2_; have BKz2 := n3_; have HB := n4_; clear n0_ n1_ n2_ n3_ n4_; (try clear ho1)) | ((with_reducible refine gate_dst (N := 5) rfl ?_); refine box_event ?hg (N := 5) ?hd (cs := #[.string (⟨#[]⟩ : ByteArray), .int .i64 0, .slice none 0 0, .slice none 0 0, .bool false]) (t := 50) ?hr ?_; (case hd => rfl); (case hg => rfl); (case hr => first | (go_simp; done) | (go_simp; rfl)); intro gbz13 hg w9 hbox hb; have n0_ := am (Kd.R_below (pr HOz7) hb); have n1_ := am (Kd.R_below (pr HOz10) hb); have n2_ := am (bkB (pk BKz1) hb); have n3_ := am (bkB (g := gbz2) (o := .cells #[.string (⟨#[]⟩ : ByteArray), .int .i64 0, .slice none 0 0, .slice none 0 0, .bool false] 50 (0, 0)) (pk BKz2) hb); have n4_ := am (below_step (sC_ HB) hb); have n5_ := am (hbox); have n6_ := ge_ hg (sC_ HB); have n7_ := ge_ hg (sC_ HB); have n8_ := nl_ hg BKz1; have n9_ := ng_ hg BKz1; have n10_ := am ((by rw [hg]; exact Nat.ne_of_lt (blk_lt (g := gbz2) (o := .cells #[.string (⟨#[]⟩ : ByteArray), .int .i64 0, .slice none 0 0, .slice none 0 0, .bool false] 50 (0, 0)) (pk BKz2)) : gbz2 ≠ gbz13)); have n11_ := am ((by rw [hg]; exact Nat.ne_of_gt (blk_lt (g := gbz2) (o := .cells #[.string (⟨#[]⟩ : ByteArray), .int .i64 0, .slice none 0 0, .slice none 0 0, .bool false] 50 (0, 0)) (pk BKz2)) : gbz13 ≠ gbz2)); clear HOz7; clear HOz10; clear BKz1; clear BKz2; clear HB; have HOz7 := n0_; have HOz10 := n1_; have BKz1 := n2_; have BKz2 := n3_; have HB := n4_; have BKz13 := n5_; have GWz13 := n6_; have GEz13 := n7_; have NBz1_z13 := n8_; have NBz13_z1 := n9_; have NBz2_z13 := n10_; have NBz13_z2 := n11_; clear n0_ n1_ n2_ n3_ n4_ n5_ n6_ n7_ n8_ n9_ n10_ n11_; clear hb hbox hg; have hnb10 := NBz13_z1.out; have hnc10 := NBz1_z13.out; have hnb11 := NBz13_z2.out; have hnc11 := NBz2_z13.out; obtain ⟨hcz12_0, hcz12_1, hcz12_2, hcz12_3, hcz12_4⟩ := bc5 BKz13; obtain ⟨hfz12_0, hfz12_1, hfz12_2, hfz12_3, hfz12_4⟩ := bf5 BKz13; obtain ⟨Ao13, co13, eo13⟩ := Kd.R_slice HOz7.out; subst eo13; obtain ⟨Ao14, co14, eo14⟩ := Kd.R_slice HOz10.out; subst eo14))
 go_loopg [7] k (fun kq v7 w' => ∃ (x7_1 : Int) (xz14000_1 : ByteArray) (xz14001_1 : Int) (xz14002_1 : List (S72)) (xz14003_1 : List (S74)) (xz14004_1 : Bool) (uz14002 : Value) (uz14003 : Value), v7 = .int .i64 x7_1 ∧ Aside0 (u8_Ideal.l0 kq l1 x7_1 xz14000_1 xz14001_1 xz14002_1 xz14003_1 xz14004_1 = some (r1, r2, r3, r4, r5)) ∧ Aside0 (kq ≤ k) ∧ Aside0 (Kd.R k72 72 w' w.heap.size (fun _ => True) uz14002 xz14002_1) ∧ Aside0 (Kd.R k74 74 w' w.heap.size (fun _ => True) uz14003 xz14003_1) ∧ Aside0 (w'.heap[gbz1]? = some (.cells #[.string a0_0, .int .i64 a0_1] 23 (0, 0))) ∧ Aside0 (w'.heap[gbz2]? = some (.cells #[.string (⟨#[]⟩ : ByteArray), .int .i64 0, (.slice none 0 0), (.slice none 0 0), .bool false] 50 (0, 0))) ∧ Aside0 (w'.heap[gbz13]? = some (.cells #[.string xz14000_1, .int .i64 xz14001_1, uz14002, uz14003, .bool xz14004_1] 50 (0, 0))) ∧ Aside0 (Below w.heap.size w w'))
 case atStart => exact ⟨(0), (tz3), (tz4), (tz5), (tz8), (tz11), (.slice Ao13 tz5.length co13), (.slice Ao14 tz8.length co14), (by first | rfl | (simp; done) | (simp [*]; done)), H', ⟨Nat.le_refl _⟩, ⟨by (with_reducible repeat first | apply ra | apply rn | apply rd); exact Kd.R_mono (rf5 (Kd.R_types HOz7.out BKz13.out (by decide)) (fun _ hk => hk.2)) (fun _ hk => trivial)⟩, ⟨by (with_reducible repeat first | apply ra | apply rn | apply rd); exact Kd.R_mono (rf5 (Kd.R_types HOz10.out BKz13.out (by decide)) (fun _ hk => hk.2)) (fun _ hk => trivial)⟩, ⟨by (with_reducible repeat (first | refine blk_drewN ?_ _ | refine bkD ?_ | refine bkA ?_ _)); refine br5 ?_ NBz1_z13; (with_reducible repeat (first | refine blk_drewN ?_ _ | refine bkD ?_ | refine bkA ?_ _)); exact BKz1.out⟩, ⟨by (with_reducible repeat (first | refine blk_drewN ?_ _ | refine bkD ?_ | refine bkA ?_ _)); refine br5 ?_ NBz2_z13; (with_reducible repeat (first | refine blk_drewN ?_ _ | refine bkD ?_ | refine bkA ?_ _)); exact BKz2.out⟩, ⟨by (with_reducible repeat (first | refine blk_drewN ?_ _ | refine bkD ?_ | refine bkA ?_ _)); apply bp5; (with_reducible repeat (first | refine blk_drewN ?_ _ | refine bkD ?_ | refine bkA ?_ _)); exact BKz13.out⟩, (sB_ HB)⟩
 clear H'
 try clear c1
 try clear p2
 try clear c3
 try clear c6
 try clear c10
 try clear c11
 try clear hcz12_0
 try clear hcz12_1
 try clear hcz12_2
 try clear hcz12_3
 try clear hcz12_4
 try clear hcz7_0
 try clear hcz7_1
 try clear hfz12_0
 try clear hfz12_1
 try clear hfz12_2
 try clear hfz12_3
 try clear hfz12_4
 try clear hfz7_0
 try clear hfz7_1
 obtain ⟨x7_1, xz14000_1, xz14001_1, xz14002_1, xz14003_1, xz14004_1, uz14002, uz14003, rfl, HA, HK1, HO_z14002, HO_z14003, BKz1, BKz2, BKz13, HB⟩ := hrel
 cases gk with
 | zero => exact absurd HA.out (by simp [u8_Ideal.l0])
 | succ k1 => ?_
 have H := HA.out
 clear HA
 simp only [u8_Ideal.l0] at H
 by_cases c15 : x7_1 < (l1.length : Int)
 rotate_left
 ·rw [if_neg c15] at H
  have c15b0 : decide (x7_1 < (l1.length : Int)) = false := decide_eq_false c15
  clear c15
  simp only [Option.some.injEq, Prod.mk.injEq] at H
  obtain ⟨rfl, rfl, rfl, rfl, rfl⟩ := H
  have hnb37 := NBz13_z1.out
  have hnc37 := NBz1_z13.out
  have hnb38 := NBz13_z2.out
  have hnc38 := NBz2_z13.out
  obtain ⟨hcz39_0, hcz39_1, hcz39_2, hcz39_3, hcz39_4⟩ := bc5 BKz13
  obtain ⟨hfz39_0, hfz39_1, hfz39_2, hfz39_3, hfz39_4⟩ := bf5 BKz13
  have hnb40 := NBz2_z1.out
  have hnc40 := NBz1_z2.out
  obtain ⟨hcz41_0, hcz41_1, hcz41_2, hcz41_3, hcz41_4⟩ := bc5 BKz2
  obtain ⟨hfz41_0, hfz41_1, hfz41_2, hfz41_3, hfz41_4⟩ := bf5 BKz2
  obtain ⟨Ao42, co42, eo42⟩ := Kd.R_slice HO_z14002.out
  subst eo42
  obtain ⟨Ao43, co43, eo43⟩ := Kd.R_slice HO_z14003.out
  subst eo43
  go_wp2
  refine bodyPost_ret (results_cell_row rfl _ _ gbz2 50 #[.string xz14000_1, .int .i64 xz14001_1, .slice Ao42 xz14002_1.length co42, .slice Ao43 xz14003_1.length co43, .bool xz14004_1] (0, 0) _ rfl (by (with_reducible repeat (first | refine blk_drewN ?_ _ | refine bkD ?_ | refine bkA ?_ _)); apply bp5; exact pk BKz2) Try.underlying50 rfl (by kernel_rfl)) rfl ?_
  exact ⟨_, _, by first | rfl | (simp <;> rfl) | (simp [*] <;> rfl), by (with_reducible repeat first | apply ra | apply rn | apply rd); exact Kd.R_mono (rf5 (Kd.R_types HO_z14002.out BKz2.out (by decide)) (fun _ hk => hk.2)) (fun _ hk => trivial), by (with_reducible repeat first | apply ra | apply rn | apply rd); exact Kd.R_mono (rf5 (Kd.R_types HO_z14003.out BKz2.out (by decide)) (fun _ hk => hk.2)) (fun _ hk => trivial), sC_ HB⟩
 rw [if_pos c15] at H
 have c15b0 : decide (x7_1 < (l1.length : Int)) = true := decide_eq_true c15
 clear c15
 by_cases c16 : x7_1 < 15
 rotate_left
 ·rw [if_neg c16] at H
  have c16b0 : decide (x7_1 < 15) = false := decide_eq_false c16
  clear c16
  simp only [Option.some.injEq, Prod.mk.injEq] at H
  obtain ⟨rfl, rfl, rfl, rfl, rfl⟩ := H
  have hnb30 := NBz13_z1.out
  have hnc30 := NBz1_z13.out
  have hnb31 := NBz13_z2.out
  have hnc31 := NBz2_z13.out
  obtain ⟨hcz32_0, hcz32_1, hcz32_2, hcz32_3, hcz32_4⟩ := bc5 BKz13
  obtain ⟨hfz32_0, hfz32_1, hfz32_2, hfz32_3, hfz32_4⟩ := bf5 BKz13
  have hnb33 := NBz2_z1.out
  have hnc33 := NBz1_z2.out
  obtain ⟨hcz34_0, hcz34_1, hcz34_2, hcz34_3, hcz34_4⟩ := bc5 BKz2
  obtain ⟨hfz34_0, hfz34_1, hfz34_2, hfz34_3, hfz34_4⟩ := bf5 BKz2
  obtain ⟨Ao35, co35, eo35⟩ := Kd.R_slice HO_z14002.out
  subst eo35
  obtain ⟨Ao36, co36, eo36⟩ := Kd.R_slice HO_z14003.out
  subst eo36
  go_wp2
  refine bodyPost_ret (results_cell_row rfl _ _ gbz2 50 #[.string xz14000_1, .int .i64 xz14001_1, .slice Ao35 xz14002_1.length co35, .slice Ao36 xz14003_1.length co36, .bool xz14004_1] (0, 0) _ rfl (by (with_reducible repeat (first | refine blk_drewN ?_ _ | refine bkD ?_ | refine bkA ?_ _)); apply bp5; exact pk BKz2) Try.underlying50 rfl (by kernel_rfl)) rfl ?_
  exact ⟨_, _, by first | rfl | (simp <;> rfl) | (simp [*] <;> rfl), by (with_reducible repeat first | apply ra | apply rn | apply rd); exact Kd.R_mono (rf5 (Kd.R_types HO_z14002.out BKz2.out (by decide)) (fun _ hk => hk.2)) (fun _ hk => trivial), by (with_reducible repeat first | apply ra | apply rn | apply rd); exact Kd.R_mono (rf5 (Kd.R_types HO_z14003.out BKz2.out (by decide)) (fun _ hk => hk.2)) (fun _ hk => trivial), sC_ HB⟩
 rw [if_pos c16] at H
 have c16b0 : decide (x7_1 < 15) = true := decide_eq_true c16
 clear c16
 by_cases c17 : 0 ≤ x7_1
 rotate_left
 ·rw [if_neg c17] at H
  exact absurd H (by simp)
 rw [if_pos c17] at H
 have c17b0 : decide (0 ≤ x7_1) = true := decide_eq_true c17
 clear c17
 replace H := ob_ H
 obtain ⟨⟨tz15, tz16, tz17, tz20, tz23⟩, A180, H⟩ := H
 replace H : (u8_Ideal.l0 k1 l1 (wrap64 (x7_1 + 1)) tz15 tz16 tz17 tz20 tz23) = some (r1, r2, r3, r4, r5) := H
 have A18 := Aside0.mk A180
 clear A180
 have H' := am H
 clear H
 try go_wp2
 have n0_ := am (Kd.R_drew HO_z14002.out)
 have n1_ := am (Kd.R_drew HO_z14003.out)
 have n2_ := am (bkD BKz1.out)
 have n3_ := am (bkD BKz2.out)
 have n4_ := am (bkD BKz13.out)
 have n5_ := am (below_drew1 HB.out)
 clear HO_z14002 HO_z14003 BKz1 BKz2 BKz13 HB; have HO_z14002 := n0_; have HO_z14003 := n1_; have BKz1 := n2_; have BKz2 := n3_; have BKz13 := n4_; have HB := n5_; clear n0_ n1_ n2_ n3_ n4_ n5_
 have pz14 : 0 ≤ (x7_1 : Int) := of_decide_eq_true (by first | (with_reducible assumption) | assumption)
 have qz14 : x7_1 < (l1.length : Int) := of_decide_eq_true (by first | (with_reducible assumption) | assumption)
 obtain ⟨adz14, ez14, hxz14_0, hxz14_1, hxz14_2⟩ := at_T46 HR1.out x7_1 pz14 qz14
 have hwz14_2 := hxz14_2
 have hwz14_1 := hxz14_1
 have hwz14_0 := hxz14_0
 cases ez14
 replace hxz14_0 := (HB.out.cell (World.block_lt_of_cell? w _ hxz14_0)).trans hxz14_0
 replace hxz14_1 := (HB.out.cell (World.block_lt_of_cell? w _ hxz14_1)).trans hxz14_1
 replace hxz14_2 := (HB.out.cell (World.block_lt_of_cell? w _ hxz14_2)).trans hxz14_2
 replace pz14 := eq_true pz14
 replace qz14 := eq_true qz14
 obtain ⟨Ao20, co20, eo20⟩ := Kd.R_slice HO_z14002.out
 (first | subst eo20 | (injection eo20 with f1_ f2_ f3_; have f4_ := f1_.symm; have f5_ := f3_.symm; clear f1_ f2_ f3_; subst f4_; subst f5_))
 obtain ⟨Ao21, co21, eo21⟩ := Kd.R_slice HO_z14003.out
 (first | subst eo21 | (injection eo21 with f1_ f2_ f3_; have f4_ := f1_.symm; have f5_ := f3_.symm; clear f1_ f2_ f3_; subst f4_; subst f5_))
 refine start_ (n := 7) (S := fun w' => w'.cell? ⟨gbz13, 0, none⟩ = some (.string xz14000_1) ∧ w'.cell? ⟨gbz13, 1, none⟩ = some (.int .i64 xz14001_1) ∧ w'.cell? ⟨gbz13, 2, none⟩ = some (.slice Ao20 xz14002_1.length co20) ∧ w'.cell? ⟨gbz13, 3, none⟩ = some (.slice Ao21 xz14003_1.length co21) ∧ w'.cell? ⟨gbz13, 4, none⟩ = some (.bool xz14004_1) ∧ w'.cell? (adz14.add ((x7_1).toNat * 3)) = some (.int .i64 ((rd_T46 l1 x7_1).f0)) ∧ w'.cell? ⟨(adz14.add ((x7_1).toNat * 3)).block, (adz14.add ((x7_1).toNat * 3)).off + 1, none⟩ = some (.int .i64 ((rd_T46 l1 x7_1).f1)) ∧ w'.cell? ⟨(adz14.add ((x7_1).toNat * 3)).block, (adz14.add ((x7_1).toNat * 3)).off + 2, none⟩ = some (.int .i64 ((rd_T46 l1 x7_1).f2))) (ds := [6]) #[false, false, false, false, false, false, false] (by kernel_rfl) rfl rfl ⟨(blk_cell BKz13.out 0).trans rfl, (blk_cell BKz13.out 1).trans rfl, (blk_cell BKz13.out 2).trans rfl, (blk_cell BKz13.out 3).trans rfl, (blk_cell BKz13.out 4).trans rfl, ((HB.out.cell (World.block_lt_of_cell? w _ hwz14_0)).trans hwz14_0), ((HB.out.cell (World.block_lt_of_cell? w _ hwz14_1)).trans hwz14_1), ((HB.out.cell (World.block_lt_of_cell? w _ hwz14_2)).trans hwz14_2)⟩ (fun hHeld => ?_)
 generalize wr.drew = w19 at HO_z14002 HO_z14003 BKz1 BKz2 BKz13 HB hxz14_0 hxz14_1 hxz14_2 hHeld ⊢
 refine pn_ 1 (some 24) rfl rfl (.inl ⟨by rfl, by intro w'; go_simp; with_reducible rfl⟩) (by simp only [Act.put, sa_, s0_, s1_, i64_w, i32_w]; rfl) ?_
 refine pn_ 2 (some 25) rfl rfl (.inl ⟨by rfl, by intro w'; go_simp; with_reducible rfl⟩) (by simp only [Act.put, sa_, s0_, s1_, i64_w, i32_w]; rfl) ?_
 refine pn_ 3 (some 26) rfl rfl (.inl ⟨by rfl, by intro w'; go_simp; with_reducible rfl⟩) (by simp only [Act.put, sa_, s0_, s1_, i64_w, i32_w]; rfl) ?_
 refine tn_ 0 (some 23) rfl rfl (.inl ⟨by rfl, by rintro w' ⟨s0, s1, s2, s3, s4, s5, s6, s7⟩; go_simp; with_reducible rfl⟩) hHeld (by simp only [Act.put, sa_, s0_, s1_, i64_w, i32_w]; rfl) ?_
 refine tn_ 4 (some 27) rfl rfl (.inl ⟨by rfl, by rintro w' ⟨s0, s1, s2, s3, s4, s5, s6, s7⟩; go_simp; with_reducible rfl⟩) hHeld (by simp only [Act.put, sa_, s0_, s1_, i64_w, i32_w]; rfl) ?_
 refine one_ (i := 5) (N := some 28) #[true, true, true, true, true, true, false] rfl rfl (by kernel_rfl) (by decide) (fun K hK => ?_)
 refine goes_ Try.func48 (by kernel_rfl) rfl #[.agg #[.string xz14000_1, .int .i64 xz14001_1, .slice Ao20 xz14002_1.length co20, .slice Ao21 xz14003_1.length co21, .bool xz14004_1], .agg #[.int .i64 ((rd_T46 l1 x7_1).f0), .int .i64 ((rd_T46 l1 x7_1).f1), .int .i64 ((rd_T46 l1 x7_1).f2)]] (by rfl) rfl rfl (by (try simp only [List.map_toArray, List.map_cons, List.map_nil]) <;> rfl) ?_
 with_reducible refine (u8_Ask.calls k1 xz14000_1 xz14001_1 _ _ xz14002_1 _ _ xz14003_1 xz14004_1 ((rd_T46 l1 x7_1).f0) ((rd_T46 l1 x7_1).f1) ((rd_T46 l1 x7_1).f2) tz15 tz16 tz17 tz20 tz23 _ ?side1 ?side2 ?side3 ?side4 A18.out).mono ?_
 (case side1 => repeat (first | exact (Kd.R_reads' HO_z14002.out).2.2 | (with_reducible refine Kd.C_alloc ?_ _) | (with_reducible refine Kd.C_drewN ?_ _) | (with_reducible refine Kd.C_drew ?_)))
 (case side2 => exact (Kd.R_reads' HO_z14002.out).2.1)
 (case side3 => repeat (first | exact (Kd.R_reads' HO_z14003.out).2.2 | (with_reducible refine Kd.C_alloc ?_ _) | (with_reducible refine Kd.C_drewN ?_ _) | (with_reducible refine Kd.C_drew ?_)))
 (case side4 => exact (Kd.R_reads' HO_z14003.out).2.1)
 rintro e w22 ⟨vz18, vz21, rfl, ho0, ho1, hb⟩
 refine ⟨_, rfl, ?_⟩
 have n0_ := am (Kd.R_elder' (pr HO_z14002) (Kd.R_base ho0) hb)
 have n1_ := am (Kd.R_elder' (pr HO_z14003) (Kd.R_base ho1) hb)
 have n2_ := am (Kd.R_lower (Kd.R_new' ho0 (Kd.R_lt (pr HO_z14002))) (below_size (sC_ HB)))
 have n3_ := am (Kd.R_lower (Kd.R_new' ho1 (Kd.R_lt (pr HO_z14003))) (below_size (sC_ HB)))
 have n4_ := am (bkB (pk BKz1) hb)
 have n5_ := am (bkB (g := gbz2) (o := .cells #[.string (⟨#[]⟩ : ByteArray), .int .i64 0, .slice none 0 0, .slice none 0 0, .bool false] 50 (0, 0)) (pk BKz2) hb)
 have n6_ := am (bkB (pk BKz13) hb)
 have n7_ := am (below_step (sC_ HB) hb)
 clear HO_z14002 HO_z14003 BKz1 BKz2 BKz13 HB; have HO_z14002 := n0_; have HO_z14003 := n1_; have HOz19 := n2_; have HOz22 := n3_; have BKz1 := n4_; have BKz2 := n5_; have BKz13 := n6_; have HB := n7_; clear n0_ n1_ n2_ n3_ n4_ n5_ n6_ n7_; obtain ⟨Ao25, co25, eo25⟩ := Kd.R_slice HOz19.out
 (first | subst eo25 | (injection eo25 with f1_ f2_ f3_; have f4_ := f1_.symm; have f5_ := f3_.symm; clear f1_ f2_ f3_; subst f4_; subst f5_))
 obtain ⟨Ao27, co27, eo27⟩ := Kd.R_slice HOz22.out
 (first | subst eo27 | (injection eo27 with f1_ f2_ f3_; have f4_ := f1_.symm; have f5_ := f3_.symm; clear f1_ f2_ f3_; subst f4_; subst f5_))
 refine hK.out _ _ ⟨(blk_cell BKz13.out 0).trans rfl, (blk_cell BKz13.out 1).trans rfl, (blk_cell BKz13.out 2).trans rfl, (blk_cell BKz13.out 3).trans rfl, (blk_cell BKz13.out 4).trans rfl, ((HB.out.cell (World.block_lt_of_cell? w _ hwz14_0)).trans hwz14_0), ((HB.out.cell (World.block_lt_of_cell? w _ hwz14_1)).trans hwz14_1), ((HB.out.cell (World.block_lt_of_cell? w _ hwz14_2)).trans hwz14_2)⟩ (fun hHeld => ?_)
 clear hK K
 refine norm_ (by show Act.put _ (some 28) _ = _; simp only [Act.put, sa_, s0_, s1_, i64_w, i32_w]; rfl) ?_
 refine last_ (i := 6) (N := none) #[true, true, true, true, true, true, true] rfl rfl (by kernel_rfl) (by decide) (fun K hK => ?_)
 have hs23 : w22.cell? ⟨gbz13, 0, none⟩ = some (.string xz14000_1) := (blk_cell BKz13.out 0).trans rfl
 have hfs23 := blk_frozen BKz13.out 0
 have := NBz1_z13.out
 have := NBz2_z13.out
 have := NBz13_z1.out
 have := NBz13_z2.out
 have hs24 : w22.cell? ⟨gbz13, 1, none⟩ = some (.int .i64 xz14001_1) := (blk_cell BKz13.out 1).trans rfl
 have hfs24 := blk_frozen BKz13.out 1
 have := NBz1_z13.out
 have := NBz2_z13.out
 have := NBz13_z1.out
 have := NBz13_z2.out
 have hs26 : w22.cell? ⟨gbz13, 2, none⟩ = some (.slice Ao20 xz14002_1.length co20) := (blk_cell BKz13.out 2).trans rfl
 have hfs26 := blk_frozen BKz13.out 2
 have := NBz1_z13.out
 have := NBz2_z13.out
 have := NBz13_z1.out
 have := NBz13_z2.out
 have hs28 : w22.cell? ⟨gbz13, 3, none⟩ = some (.slice Ao21 xz14003_1.length co21) := (blk_cell BKz13.out 3).trans rfl
 have hfs28 := blk_frozen BKz13.out 3
 have := NBz1_z13.out
 have := NBz2_z13.out
 have := NBz13_z1.out
 have := NBz13_z2.out
 have hs29 : w22.cell? ⟨gbz13, 4, none⟩ = some (.bool xz14004_1) := (blk_cell BKz13.out 4).trans rfl
 have hfs29 := blk_frozen BKz13.out 4
 have := NBz1_z13.out
 have := NBz2_z13.out
 have := NBz13_z1.out
 have := NBz13_z2.out
 refine skip_ (by rfl) rfl (by go_simp; rfl) ?_
 refine hK.out _ _ ?_
 clear hK K
 refine done_ (by kernel_rfl) ?_
 try go_wp2
 go_roundg k1
 case measure => have := HK1.out; omega
 case rel => exact ⟨(wrap64 (x7_1 + 1)), (tz15), (tz16), (tz17), (tz20), (tz23), (.slice Ao25 tz17.length co25), (.slice Ao27 tz20.length co27), (by first | rfl | (simp; done) | (simp [*]; done)), H', ⟨by have := HK1.out; omega⟩, ⟨by (with_reducible repeat first | apply ra | apply rn | apply rd); exact Kd.R_mono (rf5 (Kd.R_types HOz19.out BKz13.out (by decide)) (fun _ hk => hk.2)) (fun _ hk => trivial)⟩, ⟨by (with_reducible repeat first | apply ra | apply rn | apply rd); exact Kd.R_mono (rf5 (Kd.R_types HOz22.out BKz13.out (by decide)) (fun _ hk => hk.2)) (fun _ hk => trivial)⟩, ⟨by (with_reducible repeat (first | refine blk_drewN ?_ _ | refine bkD ?_ | refine bkA ?_ _)); refine br5 ?_ NBz1_z13; (with_reducible repeat (first | refine blk_drewN ?_ _ | refine bkD ?_ | refine bkA ?_ _)); exact BKz1.out⟩, ⟨by (with_reducible repeat (first | refine blk_drewN ?_ _ | refine bkD ?_ | refine bkA ?_ _)); refine br5 ?_ NBz2_z13; (with_reducible repeat (first | refine blk_drewN ?_ _ | refine bkD ?_ | refine bkA ?_ _)); exact BKz2.out⟩, ⟨by (with_reducible repeat (first | refine blk_drewN ?_ _ | refine bkD ?_ | refine bkA ?_ _)); apply bp5; (with_reducible repeat (first | refine blk_drewN ?_ _ | refine bkD ?_ | refine bkA ?_ _)); exact BKz13.out⟩, (sB_ HB)⟩
end Go.Proofs.Ytmkncddbecmlpaa.Pr
end
section
set_option linter.unusedVariables false
namespace Go.Proofs.Ytmkncddbecmlpaa.Pr
open Go.RowKit Go.Proofs.YtmkncddbecmlpaaW.PrintWords Go.Proofs.YtmkncddbecmlpaaW.PrintLast Go.Proofs.YtmkncddbecmlpaaW.PrintMore
def openT (cs : List S74) (l x : ByteArray) : ByteArray × Int := match cs.find? (fun n => decide (n.f0 = l) && decide (n.f2 = x)) with | some c => (c.f1, 0) | none => (⟨#[]⟩, 11)
def openS (b : ByteArray) (a : Int) (ns : List S72) (cs : List S74) (cl : Bool) (l x : ByteArray) : ByteArray × Int := if rightP b a ns cs cl = true then openT cs l x else (⟨#[]⟩, 1)
section
variable {b : ByteArray} {a : Int} {ns : List S72} {cs : List S74} {cl : Bool}
theorem iopen_eq (l x : ByteArray) : ideal_Open.f b a ns cs cl l x = some (openS b a ns cs cl l x) := by
  unfold openS
  by_cases hr : rightP b a ns cs cl = true
  · rw [if_pos hr, open_eq (rightP_iff.1 hr)]
    rfl
  · rw [if_neg hr]
    unfold ideal_Open.f ideal_Right.f
    rw [Option.bind_some, if_neg hr]
theorem ropen_l0 (h2 : cs.length ≤ 20) (l x : ByteArray) : ∀ (d i k : Nat), i + d = cs.length → d < k → (∀ j, (hj : j < cs.length) → j < i → ¬ (cs[j].f0 = l ∧ cs[j].f2 = x)) →
    r8_Open.l0 k l x i b a ns cs cl = some (openT cs l x) := by
  intro d
  induction d with
  | zero =>
    intro i k h hk hn
    obtain ⟨k, rfl⟩ : ∃ m, k = m + 1 := ⟨k - 1, by omega⟩
    simp only [r8_Open.l0]
    rw [if_neg (by omega)]
    have hf : cs.find? (fun n => decide (n.f0 = l) && decide (n.f2 = x)) = none := by
      rw [List.find?_eq_none]
      intro y hy
      obtain ⟨j, hj, rfl⟩ := List.getElem_of_mem hy
      simpa using hn j hj (by omega)
    unfold openT
    rw [hf]
  | succ d ih =>
    intro i k h hk hn
    obtain ⟨k, rfl⟩ : ∃ m, k = m + 1 := ⟨k - 1, by omega⟩
    have hi : i < cs.length := by omega
    simp only [r8_Open.l0]
    rw [if_pos (by omega), if_pos (by omega), rd74_get hi, show wrap64 ((i : Int) + 1) = ((i + 1 : Nat) : Int) from by unfold wrap64; omega]
    have next : ¬ (cs[i].f0 = l ∧ cs[i].f2 = x) → r8_Open.l0 k l x ((i + 1 : Nat) : Int) b a ns cs cl = some (openT cs l x) := fun hne => ih (i + 1) k (by omega) (by omega) (fun j hj hji => by
      by_cases e : j < i
      · exact hn j hj e
      · obtain rfl : j = i := by omega
        exact hne)
    by_cases he : cs[i].f0 = l
    · rw [if_pos ((tl_eq _ _).2 he)]
      by_cases he2 : cs[i].f2 = x
      · rw [if_pos ((tl_eq _ _).2 he2)]
        unfold openT
        rw [List.find?_eq_some_iff_getElem.2 ⟨by simp [he, he2], i, hi, rfl, fun j hj => by have h9 := hn j (by omega) hj; simp only [Bool.not_eq_eq_eq_not, Bool.not_true, Bool.and_eq_false_iff, decide_eq_false_iff_not]; exact Decidable.not_and_iff_or_not.1 h9⟩]
      · rw [if_neg (fun e => he2 ((tl_eq _ _).1 e))]
        exact next (fun e => he2 e.2)
    · rw [if_neg (fun e => he ((tl_eq _ _).1 e))]
      exact next (fun e => he e.1)
theorem ropen_eq (h1 : ns.length ≤ 20) (h2 : cs.length ≤ 20) (l x : ByteArray) {k : Nat} (hk : 3300 < k) : r8_Open.f k b a ns cs cl l x = some (openS b a ns cs cl l x) := by
  unfold r8_Open.f openS
  rw [rright8_eq h1 h2 (by omega), Option.bind_some]
  by_cases hr : rightP b a ns cs cl = true
  · rw [if_pos hr, if_pos hr]
    exact ropen_l0 h2 l x cs.length 0 k (by omega) (by omega) (fun j hj h => by omega)
  · rw [if_neg hr, if_neg hr]
theorem labelS_len (t : ByteArray) : (labelS b a ns cs cl t).2.2.2.1.length ≤ ns.length + 1 ∧ (labelS b a ns cs cl t).2.2.2.2.1.length = cs.length := by
  unfold labelS
  split
  · unfold labelT
    split
    · simp
    · split
      · simp
      · simp
  · simp
theorem sealS_len (l t : ByteArray) : (sealS b a ns cs cl l t).2.2.2.1.length = ns.length ∧ (sealS b a ns cs cl l t).2.2.2.2.1.length ≤ cs.length + 1 := by
  unfold sealS
  split
  · unfold sealT
    split
    · simp
    · split
      · simp
      · simp
  · simp
end
def newS (b : ByteArray) (a : Int) : ByteArray × Int × (List S72) × (List S74) × Bool × Int := if rightB b a = true then (b, a, [], [], false, 0) else (⟨#[]⟩, 0, [], [], false, 1)
theorem newS_eq (b : ByteArray) (a : Int) : ideal_New.f b a = some (newS b a) := by
  unfold ideal_New.f newS
  rw [right_eq, Option.bind_some]
  split <;> rfl
theorem rnewS_eq (b : ByteArray) (a : Int) : r8_New.f b a = some (newS b a) := by
  unfold r8_New.f newS
  rw [rright_eq, Option.bind_some]
  split <;> rfl
theorem newS_len (b : ByteArray) (a : Int) : (newS b a).2.2.1.length = 0 ∧ (newS b a).2.2.2.1.length = 0 := by
  unfold newS
  split <;> simp
structure NInv (i : Nat) (b : ByteArray) (a : Int) (ns : List S72) (cs : List S74) (cl : Bool) : Prop where
  inv : Inv8 i b a ns cs cl
  names : ∀ n ∈ ns, n.f0.size = 1
  cells : ∀ c ∈ cs, ∃ r : Int, 0 ≤ r ∧ r < 4 ∧ c.f0 = strOfNums ([108, r] ++ List.replicate 14 0)
theorem ask_step {i : Nat} {b : ByteArray} {a : Int} {ns : List S72} {cs : List S74} {cl : Bool} (H : NInv i b a ns cs cl) (hi : i < 15) {x y z : Int} (hx : (Lit.int .i64 x).wf = true) (hy : (Lit.int .i64 y).wf = true) (hz : (Lit.int .i64 z).wf = true) :
    ∃ a' ns' cs' cl', (∀ k, 3300 < k → u8_Ask.f k b a ns cs cl x y z = some (b, a', ns', cs', cl')) ∧ NInv (i + 1) b a' ns' cs' cl' := by
  have hm := H.inv.many
  obtain ⟨p, hp, hp0, hp1⟩ := pick8 hx (n := 2) (by omega)
  by_cases hp2 : p = 0
  · obtain ⟨q, hq, hq0, hq1⟩ := pick8 hy (n := 6) (by omega)
    have hts : (strOfNums [q % 256]).size = 1 := by rw [strOfNums_size]; rfl
    obtain ⟨s, a', ns', cl', hL, hI, _, _, hnew⟩ := label_step H.inv hi (t := strOfNums [q % 256]) (by omega)
    have hS := hL 0
    rw [label_eq (by omega) (by omega)] at hS
    refine ⟨a', ns', cs, cl', fun k hk => ?_, hI, fun n hn => ?_, H.cells⟩
    · unfold u8_Ask.f
      rw [hp, Option.bind_some, if_pos hp2, hq, Option.bind_some, rlabel_eq (by omega) (by omega) _ hk, hS, Option.bind_some]
    · rcases hnew n hn with h | rfl
      · exact H.names n h
      · exact hts
  · obtain ⟨l, _, hl0, hl1, hL⟩ := label8 hy
    obtain ⟨t, _, ht0, ht1, hT⟩ := text8 hz
    obtain ⟨s, a', cs', cl', hS, hI, _, _, hnew⟩ := seal_step H.inv hi (l := strOfNums ([108, l] ++ List.replicate 14 0)) (t := strOfNums ([t] ++ List.replicate 23 0)) (by rw [strOfNums_size]; simp) (by rw [strOfNums_size]; simp)
    have hS := hS 0
    rw [seal_eq (by omega) (by omega)] at hS
    refine ⟨a', ns, cs', cl', fun k hk => ?_, hI, H.names, fun c hc => ?_⟩
    · unfold u8_Ask.f
      rw [hp, Option.bind_some, if_neg hp2, hL, Option.bind_some, hT, Option.bind_some, rseal_eq (by omega) (by omega) _ _ hk, hS, Option.bind_some]
    · rcases hnew c hc with h | rfl
      · exact H.cells c h
      · exact ⟨l, hl0, hl1, rfl⟩
theorem ideal_l0 {xs : List S46} (hw : wf46 xs) {b : ByteArray} : ∀ (d i : Nat) (a : Int) (ns : List S72) (cs : List S74) (cl : Bool), i + d = 15 → NInv i b a ns cs cl →
    ∃ a' ns' cs' cl', (∀ k, 3400 + d < k → u8_Ideal.l0 k xs i b a ns cs cl = some (b, a', ns', cs', cl')) ∧ NInv 15 b a' ns' cs' cl' := by
  intro d
  induction d with
  | zero =>
    intro i a ns cs cl h H
    refine ⟨a, ns, cs, cl, fun k hk => ?_, ⟨H.inv.more (by omega), H.names, H.cells⟩⟩
    obtain ⟨k, rfl⟩ : ∃ q, k = q + 1 := ⟨k - 1, by omega⟩
    simp only [u8_Ideal.l0]
    rw [if_neg (show ¬ (i : Int) < 15 by omega), ite_self]
  | succ d ih =>
    intro i a ns cs cl h H
    by_cases hlt : (i : Int) < (xs.length : Int)
    case neg =>
      refine ⟨a, ns, cs, cl, fun k hk => ?_, ⟨H.inv.more (by omega), H.names, H.cells⟩⟩
      obtain ⟨k, rfl⟩ : ∃ q, k = q + 1 := ⟨k - 1, by omega⟩
      simp only [u8_Ideal.l0]
      rw [if_neg hlt]
    obtain ⟨w0, w1, w2⟩ := rd46_wf hw (i := (i : Int)) (by omega) hlt
    obtain ⟨a', ns', cs', cl', hA, hI⟩ := ask_step H (by omega) w0 w1 w2
    obtain ⟨a2, ns2, cs2, cl2, hB, hJ⟩ := ih (i + 1) a' ns' cs' cl' (by omega) hI
    refine ⟨a2, ns2, cs2, cl2, fun k hk => ?_, hJ⟩
    obtain ⟨k, rfl⟩ : ∃ q, k = q + 1 := ⟨k - 1, by omega⟩
    simp only [u8_Ideal.l0]
    rw [if_pos hlt, if_pos (by omega), if_pos (by omega), hA k (by omega), Option.bind_some, show wrap64 ((i : Int) + 1) = ((i + 1 : Nat) : Int) from by unfold wrap64; omega]
    exact hB k (by omega)
theorem ideal_plain {xs : List S46} (hw : wf46 xs) {b : ByteArray} (hs : b.size = 2000) : ∃ a ns cs cl, u8_Ideal.f 4000 b 0 xs = some (b, a, ns, cs, cl) ∧ ns.length + cs.length ≤ 15 := by
  have hr : rightB b 0 = true := rightB_iff.2 ⟨by omega, by omega, by omega⟩
  obtain ⟨a', ns, cs, cl, hL, hN⟩ := ideal_l0 hw 15 0 0 [] [] false (by omega) ⟨Inv8.start hs, by simp, by simp⟩
  refine ⟨a', ns, cs, cl, ?_, hN.inv.many⟩
  unfold u8_Ideal.f r8_New.f
  rw [rright_eq, hr, Option.bind_some, if_pos rfl, Option.bind_some]
  exact hL 4000 (by omega)
end Go.Proofs.Ytmkncddbecmlpaa.Pr
end
section
set_option linter.unusedVariables false
namespace Go.Proofs.Ytmkncddbecmlpaa.XB
open Go.RowKit
section
variable {P : Program} {ops : Array Oper} {md : Region.Mode} {C : World → Prop}
def HeadQ (P : Program) (md : Region.Mode) (ops : Array Oper) (C : World → Prop) (n : Nat) (L : Array Bool → Act → Prop) : Nat → Array Bool → Act → Prop
  | 0, up, a => L up a
  | f + 1, up, a => Region.ready md ops up ≠ [] ∧ ∀ i ∈ Region.ready md ops up, i < n ∧ qOp P ops C i (HeadQ P md ops C n L f (up.setIfInBounds i true)) a
theorem HeadQ.any {n g : Nat} {L : Array Bool → Act → Prop} {Q : Exit → Act → World → Prop} (hL : ∀ up a w, C w → L up a → wpAny P md ops Q g up a w) :
    ∀ (f : Nat) (up : Array Bool) (a : Act) (w : World), C w → HeadQ P md ops C n L f up a → wpAny P md ops Q (f + g) up a w
  | 0, up, a, w, hC, h => by rw [Nat.zero_add]; exact hL _ _ _ hC h
  | f + 1, up, a, w, hC, h => by
    rw [show f + 1 + g = (f + g) + 1 by omega]
    exact ⟨fun h0 => absurd h0 h.1, fun i hi => wpOp_of_qOp hC (fun a' w' hC' h' => HeadQ.any hL f _ a' w' hC' h') (h.2 i hi).2⟩
theorem HeadQ.first {n i : Nat} {oi : Oper} {v : Value} {L : Array Bool → Act → Prop} (hi : ops[i]? = some oi) (hsel : ∀ (j : Nat) (o : Oper) cs b, ops[j]? = some o → o.op ≠ .select cs b)
    (hs : Region.sinkB md ops n = true) (hc : Region.chainB md ops n = true) (hn : n < ops.size) (hin : i < n) (hdone : ∀ up a, L up a → ∀ j ∈ Region.ready md ops up, n ≤ j) :
    ∀ (f : Nat) (up : Array Bool) (a : Act), HeadInv md ops n up →
      (∀ j oj, ops[j]? = some oj → j ≠ i → up.getD j true = false → (∀ e ∈ oj.after, Region.binds md e = true → e.on ≠ i) → oi.apart ops oj = true) →
      i ∈ Region.ready md ops up → YieldsIn P ops C oi v a → HeadQ P md ops C n L f (up.setIfInBounds i true) (a.put oi.dst v) → HeadQ P md ops C n L (f + 1) up a := by
  intro f
  induction f with
  | zero =>
    intro up a inv _ hr hy H
    refine ⟨List.ne_nil_of_mem hr, fun j hj => ?_⟩
    have hjn : j < n := Nat.lt_of_not_le fun h => tail_waits hs hc hn inv _ i rfl hin (mem_ready.1 hr).1 j h hj
    refine ⟨hjn, ?_⟩
    by_cases hji : j = i
    · subst hji; exact hy.qOp hi H
    · exact absurd (hdone _ _ H j (ready_mono hj hji)) (by omega)
  | succ f ih =>
    intro up a inv hfree hr hy H
    refine ⟨List.ne_nil_of_mem hr, fun j hj => ?_⟩
    have hjn : j < n := Nat.lt_of_not_le fun h => tail_waits hs hc hn inv _ i rfl hin (mem_ready.1 hr).1 j h hj
    refine ⟨hjn, ?_⟩
    by_cases hji : j = i
    · subst hji; exact hy.qOp hi H
    · obtain ⟨hjun, oj, hoj, hall⟩ := mem_ready.1 hj
      have hun := (mem_ready.1 hr).1
      have hnot : ∀ e ∈ oj.after, Region.binds md e = true → e.on ≠ i := fun e he hb heq => by
        have h1 := hall e he hb
        rw [heq, getD_both hun] at h1
        cases h1
      have h2 := qOp_put hoj (hfree j oj hoj hji hjun hnot) (fun cs b => hsel i oi cs b hi) (fun cs b => hsel j oj cs b hoj) hy (H.2 j (ready_mono hj hji)).2
      refine qOp_mono (fun a' h3 => ih (up.setIfInBounds j true) a' (inv.set hj hjn) (fun k ok hk hki hun' hno => ?_) (ready_mono hr (Ne.symm hji)) h3.1 ?_) h2
      · refine hfree k ok hk hki ?_ hno
        by_cases hjk : j = k
        · subst hjk; exact hjun
        · rw [getD_set_ne true hjk] at hun'; exact hun'
      · rw [Array.setIfInBounds_comm _ _ hji]; exact h3.2
theorem region_all {id : Nat} {Q : Exit → Act → World → Prop} {a : Act} {w : World} {l : List Oper} (C : World → Prop) (hm : P.follows .mixedOrders = true) (hB : Region.lexB .any l.toArray = true) (hC : C w.drew)
    (h : wpQuiet P l.toArray C (fun a' => ∀ w', C w' → Q .normal a' w') l a) : (Code.region id l.toArray true).wp P Q a w :=
  wp_region_quiet (C := C) hm hB hC (by simpa using h)
end
structure In (S : World → Prop) where
  w : World
  h : S w
theorem in_of {P : Program} {f : FuncId} {args : Array Value} {v : Value} {S : World → Prop} (hS : ∀ X Y, S X → Below X.heap.size X Y → S Y) {p : In S}
    (h : Calls P f args p.w fun e w' => e = .returned v ∧ Below p.w.heap.size p.w w') : Calls P f args p.w fun e w'' => e = .returned v ∧ ∃ q : In S, w'' = q.w :=
  h.mono fun _ w' ⟨he, hb⟩ => ⟨he, ⟨w', hS _ _ p.h hb⟩, rfl⟩
theorem in_belowB {P : Program} {f : FuncId} {args : Array Value} {v : Value} {W : World} {p : In (Below W.heap.size W)}
    (h : Calls P f args p.w fun e w' => e = .returned v ∧ Below p.w.heap.size p.w w') : Calls P f args p.w fun e w'' => e = .returned v ∧ ∃ q : In (Below W.heap.size W), w'' = q.w :=
  in_of (fun _ _ hX hb => hX.trans (hb.mono hX.size)) h
section
variable {P : Program} {ops : Array Oper} {md : Region.Mode} {C : World → Prop} {l n : Nat}
def noDefer (ops : Array Oper) : Bool := ops.all fun o => match o.op with | .defer _ => false | _ => true
theorem noDefer_spec {i : Nat} {o : Oper} (h : noDefer ops = true) (ho : ops[i]? = some o) : ∀ c, o.op ≠ .defer c := by
  intro c hc
  obtain ⟨hi, rfl⟩ := Array.getElem?_eq_some_iff.1 ho
  have h2 := Array.all_eq_true.1 h i hi
  rw [hc] at h2
  cases h2
theorem Oper.round_of_quiet {o : Oper} {a : Act} {K : Act → Prop} {K' : Act → World → Prop} {Q : Exit → Act → World → Prop} {w : World} (hd : ∀ c, o.op ≠ .defer c) (hw : C w) (h : ∀ a w', C w' → K a → K' a w') (hh : o.quiet P a C K) :
    o.wpIn (Fence.wide.inRound l) n P a w K' Q := by
  obtain ⟨v, h1, h2⟩ := hh
  have h3 := h1 w hw
  refine ⟨fun _ _ => trivial, ?_⟩
  show o.uponIn (Fence.wide.inRound l) n P a K' Q ((o.semAt (some l) a.eval).run P w)
  rw [Oper.semAt_some l _ _ hd]
  unfold Oper.quietAt at h3
  generalize (execOp a.eval o).run P w = r at *
  cases r with
  | ok m w' =>
    cases m <;> simp only [Oper.quietUpon] at h3
    case value u =>
      obtain ⟨e1, e2⟩ := h3
      rw [e1, e2]
      exact h _ _ hw h2
    case skip =>
      obtain ⟨e1, e2⟩ := h3
      subst e2
      rw [e1]
      exact h _ _ hw h2
    case enter f args =>
      obtain ⟨e1, hc⟩ := h3
      rw [e1]
      refine ⟨fun hx => (by cases hx), CallsIn.inRound l (callsIn_wide.2 (hc.mono fun e w'' ⟨he, hw''⟩ => ?_))⟩
      subst he
      exact h _ _ hw'' h2
  | halt x w' => simp only [Oper.quietUpon] at h3
theorem round_of_qOp {i : Nat} {a : Act} {K : Act → Prop} {K' : Act → World → Prop} {Q : Exit → Act → World → Prop} {w : World} (hn : noDefer ops = true) (hC : C w) (h : ∀ a w', C w' → K a → K' a w') (hh : qOp P ops C i K a) :
    wpOpIn (Fence.wide.inRound l) n P ops Q i K' a w := by
  unfold qOp at hh
  unfold wpOpIn
  split
  · rename_i ho; simp only [ho] at hh; exact h _ _ hC hh
  · rename_i o ho
    simp only [ho] at hh
    split
    · rename_i hw; simp only [hw, if_true] at hh; exact Oper.round_of_quiet (noDefer_spec hn ho) hC h hh
    · rename_i hw; simp only [hw] at hh; exact ⟨fun _ _ => trivial, h _ _ hC hh⟩
theorem HeadQ.round {m g : Nat} {L : Array Bool → Act → Prop} {Q : Exit → Act → World → Prop} (hn : noDefer ops = true) (hL : ∀ up a w, C w → L up a → wpAnyIn (Fence.wide.inRound l) n P md ops Q g up a w) :
    ∀ (f : Nat) (up : Array Bool) (a : Act) (w : World), C w → HeadQ P md ops C m L f up a → wpAnyIn (Fence.wide.inRound l) n P md ops Q (f + g) up a w
  | 0, up, a, w, hC, h => by rw [Nat.zero_add]; exact hL _ _ _ hC h
  | f + 1, up, a, w, hC, h => by
    rw [show f + 1 + g = (f + g) + 1 by omega]
    exact ⟨fun h0 => absurd h0 h.1, fun i hi => round_of_qOp hn hC (fun a' w' hC' h' => HeadQ.round hn hL f _ a' w' hC' h') (h.2 i hi).2⟩
theorem round_of_quiet {Qa : Act → Prop} {Q : Exit → Act → World → Prop} (hn : noDefer ops = true) (hQ : ∀ a w, C w → Qa a → Q .normal a w) : ∀ (fuel : Nat) (up : Array Bool) (a : Act) (w : World), C w →
    wpAnyQ P md ops C Qa fuel up a → wpAnyIn (Fence.wide.inRound l) n P md ops Q fuel up a w
  | 0, _, _, _, hw, h => ⟨h.1, hQ _ _ hw h.2⟩
  | fuel + 1, _, _, _, hw, h => ⟨fun h0 => hQ _ _ hw (h.1 h0), fun i hi => round_of_qOp hn hw (fun a' w' hw' => round_of_quiet hn hQ fuel _ a' w' hw') (h.2 i hi)⟩
end
end Go.Proofs.Ytmkncddbecmlpaa.XB
end
section
namespace Go.Proofs.Ytmkncddbecmlpaa.Pr
open Go.RowKit Go.Shelf Go.Proofs.Ytmkncddbecmlpaa.XB Go.Proofs.YtmkncddbecmlpaaW.PrintWords
attribute [local go_sem] Oper.semAt_some
set_option linter.unusedVariables false
set_option linter.unusedSimpArgs false
set_option maxRecDepth 100000
def allLoops : Code → List Code
  | .loop c => c :: allLoops c
  | .seq a b => allLoops a ++ allLoops b
  | .block _ c => allLoops c
  | .scope c => allLoops c
  | .cond _ a b => allLoops a ++ allLoops b
  | _ => []
noncomputable def it1body : Code := (Try.f8.body.map fun c => (allLoops c).getD 1 .skip).getD .skip
set_option maxHeartbeats 8000000 in
theorem it1_round {K : Act → World → Prop} {Q : Exit → Act → World → Prop} (j g c gx : Nat) (hj : j < 2) (s : ByteArray) {b : ByteArray} {a : Int} {ns : List S72} {cs : List S74} {cl : Bool} {A0 A1 : Option Addr} {c0 c1 : Nat} (wr : World)
    (hrow : wr.cell? ⟨g, j, none⟩ = some (.string s)) (hbx : wr.heap[gx]? = some (.cells #[.string b, .int .i64 a, .slice A0 ns.length c0, .slice A1 cs.length c1, .bool cl] 50 (0, 0)))
    (hns : Kd.C k72 wr A0 ns.length ns) (hc0 : ns.length ≤ c0) (hcs : Kd.C k74 wr A1 cs.length cs) (hc1 : cs.length ≤ c1) (hl0 : ns.length ≤ 18) (hl1 : cs.length ≤ 18)
    {p0 p1 p2 p3 p4 p5 p6 p7 p8 p9 p10 p11 p12 p13 p14 p15 p16 p17 p18 p19 p20 p21 p22 p23 p24 p25 p26 p27 p29 p37 p38 p39 p40 p41 p42 p43 p44 p45 p46 p47 p48 p49 p50 p51 p52 p53 p54 p55 p56 p57 p58 p59 p60 p61 p62 p63 p64 p65 p66 p67 p68 p69 p70 p71 p72 p73 p74 p75 p76 p77 p78 p79 p80 p81 p82 p83 p84 p85 p86 p87 p88 p89 p90 p91 p92 p93 p94 p95 p96 p97 p98 p99 p100 p101 p102 p103 p104 p105 p106 p107 p108 p109 p110 p111 p112 p113 p114 p115 p116 p117 p118 p119 p120 p121 p122 p123 p124 p125 p126 p127 p128 p129 p130 p131 p132 p133 p134 p135 p136 p137 p138 p139 p140 p141 p142 p143 p144 p145 p146 p147 p148 p149 p150 p151 p152 p153 p154 p155 p156 p157 p158 p159 p160 p161 p162 p163 p164 p165 p166 p167 p168 p211 p212 p213 p214 p215 p216 p217 p218 p219 p220 p221 p222 p223 p224 p225 p226 p227 p228 p229 p230 p231 p232 p233 p234 p235 p236 p237 p238 p239 p240 p241 p242 p243 p244 p245 p246 p247 p248 p249 p250 p251 p252 p253 p254 p255 p256 p257 p258 p259 p260 p261 p262 p263 p264 p265 p266 p267 p268 p269 p270 p271 p272 p273 p274 p275 p276 p277 p278 p279 p280 p281 p282 p283 p284 p285 p286 p287 p288 p289 p290 p291 p292 p293 p294 p295 p296 p297 p298 p299 p300 p301 p302 p303 p304 p305 p306 p307 p308 p309 p310 p311 p312 p313 p314 p315 p316 p317 p318 p319 p320 p321 p322 p323 p324 : Value} {u30 u31 u32 u33 u34 u35 u36 u172 u173 u174 u175 u176 u177 u178 u179 u180 u181 u182 u183 u184 u185 u186 u187 u188 u189 u190 u191 u192 u193 u194 u195 u196 u197 u198 u199 u200 u201 u202 u203 u204 u205 u206 u207 u208 u209 u210 : Value}
    (hK : ∀ (v30 v31 v32 v33 v34 v35 v36 v172 v173 v174 v175 v176 v177 v178 v179 v180 v181 v182 v183 v184 v185 v186 v187 v188 v189 v190 v191 v192 v193 v194 v195 v196 v197 v198 v199 v200 v201 v202 v203 v204 v205 v206 v207 v208 v209 v210 : Value) (W' : World), Below wr.heap.size wr W' → K ⟨#[p0, p1, p2, p3, p4, p5, p6, p7, p8, p9, p10, p11, p12, p13, p14, p15, p16, p17, p18, p19, p20, p21, p22, p23, p24, p25, p26, p27, .pointer (some ⟨gx, 0, none⟩), p29, v30, v31, v32, v33, v34, v35, v36, p37, p38, p39, p40, p41, p42, p43, p44, p45, p46, p47, p48, p49, p50, p51, p52, p53, p54, p55, p56, p57, p58, p59, p60, p61, p62, p63, p64, p65, p66, p67, p68, p69, p70, p71, p72, p73, p74, p75, p76, p77, p78, p79, p80, p81, p82, p83, p84, p85, p86, p87, p88, p89, p90, p91, p92, p93, p94, p95, p96, p97, p98, p99, p100, p101, p102, p103, p104, p105, p106, p107, p108, p109, p110, p111, p112, p113, p114, p115, p116, p117, p118, p119, p120, p121, p122, p123, p124, p125, p126, p127, p128, p129, p130, p131, p132, p133, p134, p135, p136, p137, p138, p139, p140, p141, p142, p143, p144, p145, p146, p147, p148, p149, p150, p151, p152, p153, p154, p155, p156, p157, p158, p159, p160, p161, p162, p163, p164, p165, p166, p167, p168, .slice (some ⟨g, 0, none⟩) 2 c, .int .i64 2, .int .i64 ((j : Int) + 1), v172, v173, v174, v175, v176, v177, v178, v179, v180, v181, v182, v183, v184, v185, v186, v187, v188, v189, v190, v191, v192, v193, v194, v195, v196, v197, v198, v199, v200, v201, v202, v203, v204, v205, v206, v207, v208, v209, v210, p211, p212, p213, p214, p215, p216, p217, p218, p219, p220, p221, p222, p223, p224, p225, p226, p227, p228, p229, p230, p231, p232, p233, p234, p235, p236, p237, p238, p239, p240, p241, p242, p243, p244, p245, p246, p247, p248, p249, p250, p251, p252, p253, p254, p255, p256, p257, p258, p259, p260, p261, p262, p263, p264, p265, p266, p267, p268, p269, p270, p271, p272, p273, p274, p275, p276, p277, p278, p279, p280, p281, p282, p283, p284, p285, p286, p287, p288, p289, p290, p291, p292, p293, p294, p295, p296, p297, p298, p299, p300, p301, p302, p303, p304, p305, p306, p307, p308, p309, p310, p311, p312, p313, p314, p315, p316, p317, p318, p319, p320, p321, p322, p323, p324], []⟩ W') :
    Code.wp Try.prog it1body (Exit.then K Q) ⟨#[p0, p1, p2, p3, p4, p5, p6, p7, p8, p9, p10, p11, p12, p13, p14, p15, p16, p17, p18, p19, p20, p21, p22, p23, p24, p25, p26, p27, .pointer (some ⟨gx, 0, none⟩), p29, u30, u31, u32, u33, u34, u35, u36, p37, p38, p39, p40, p41, p42, p43, p44, p45, p46, p47, p48, p49, p50, p51, p52, p53, p54, p55, p56, p57, p58, p59, p60, p61, p62, p63, p64, p65, p66, p67, p68, p69, p70, p71, p72, p73, p74, p75, p76, p77, p78, p79, p80, p81, p82, p83, p84, p85, p86, p87, p88, p89, p90, p91, p92, p93, p94, p95, p96, p97, p98, p99, p100, p101, p102, p103, p104, p105, p106, p107, p108, p109, p110, p111, p112, p113, p114, p115, p116, p117, p118, p119, p120, p121, p122, p123, p124, p125, p126, p127, p128, p129, p130, p131, p132, p133, p134, p135, p136, p137, p138, p139, p140, p141, p142, p143, p144, p145, p146, p147, p148, p149, p150, p151, p152, p153, p154, p155, p156, p157, p158, p159, p160, p161, p162, p163, p164, p165, p166, p167, p168, .slice (some ⟨g, 0, none⟩) 2 c, .int .i64 2, .int .i64 (j : Int), u172, u173, u174, u175, u176, u177, u178, u179, u180, u181, u182, u183, u184, u185, u186, u187, u188, u189, u190, u191, u192, u193, u194, u195, u196, u197, u198, u199, u200, u201, u202, u203, u204, u205, u206, u207, u208, u209, u210, p211, p212, p213, p214, p215, p216, p217, p218, p219, p220, p221, p222, p223, p224, p225, p226, p227, p228, p229, p230, p231, p232, p233, p234, p235, p236, p237, p238, p239, p240, p241, p242, p243, p244, p245, p246, p247, p248, p249, p250, p251, p252, p253, p254, p255, p256, p257, p258, p259, p260, p261, p262, p263, p264, p265, p266, p267, p268, p269, p270, p271, p272, p273, p274, p275, p276, p277, p278, p279, p280, p281, p282, p283, p284, p285, p286, p287, p288, p289, p290, p291, p292, p293, p294, p295, p296, p297, p298, p299, p300, p301, p302, p303, p304, p305, p306, p307, p308, p309, p310, p311, p312, p313, p314, p315, p316, p317, p318, p319, p320, p321, p322, p323, p324], []⟩ wr := by
  conv => arg 2; whnf
  have HK := Lib.hid hK
  have j0 : (j : Int) < 2 := by omega
  have HB : Hid (Below wr.heap.size wr wr) := Lib.hid (Below.refl _ _)
  have BX := Lib.hid hbx
  have bx_0 := (blk_cell hbx 0).trans rfl; have bx_1 := (blk_cell hbx 1).trans rfl; have bx_2 := (blk_cell hbx 2).trans rfl; have bx_3 := (blk_cell hbx 3).trans rfl; have bx_4 := (blk_cell hbx 4).trans rfl
  have hlen := labelS_len (b := b) (a := a) (ns := ns) (cs := cs) (cl := cl) s
  have e1 : ideal_Label.f 2 b a ns cs cl s = some ((labelS b a ns cs cl s).1, (labelS b a ns cs cl s).2.1, (labelS b a ns cs cl s).2.2.1, (labelS b a ns cs cl s).2.2.2.1, (labelS b a ns cs cl s).2.2.2.2.1, (labelS b a ns cs cl s).2.2.2.2.2.1, (labelS b a ns cs cl s).2.2.2.2.2.2) := label_eq (by omega) (by omega) s 0
  have e2 : r8_Label.f 3301 b a ns cs cl s = some ((labelS b a ns cs cl s).1, (labelS b a ns cs cl s).2.1, (labelS b a ns cs cl s).2.2.1, (labelS b a ns cs cl s).2.2.2.1, (labelS b a ns cs cl s).2.2.2.2.1, (labelS b a ns cs cl s).2.2.2.2.2.1, (labelS b a ns cs cl s).2.2.2.2.2.2) := rlabel_eq (by omega) (by omega) s (by omega)
  have HR := Lib.hid (fun W (hb : Below wr.heap.size wr W) => ideal_Label.calls 2 b a A0 c0 ns A1 c1 cs cl s _ _ _ _ _ _ _ W (Kd.C_below hns hb) hc0 (Kd.C_below hcs hb) hc1 e1)
  have HS := Lib.hid (fun W (hb : Below wr.heap.size wr W) => r8_Label.calls 3301 b a A0 c0 ns A1 c1 cs cl s _ _ _ _ _ _ _ W (Kd.C_below hns hb) hc0 (Kd.C_below hcs hb) hc1 e2)
  have HI := Lib.hid (fun W (hb : Below wr.heap.size wr W) => ideal_Right.calls b a A0 c0 ns A1 c1 cs cl (rightP b a ns cs cl) W (Kd.C_below hns hb) hc0 (Kd.C_below hcs hb) hc1 rfl)
  have HJ := Lib.hid (fun W (hb : Below wr.heap.size wr W) => r8_Right.calls 3301 b a A0 c0 ns A1 c1 cs cl (rightP b a ns cs cl) W (Kd.C_below hns hb) hc0 (Kd.C_below hcs hb) hc1 (rright8_eq (by omega) (by omega) (by omega)))
  have HT := Lib.hid (fun (rb : ByteArray) (ra : Int) (rn : List S72) (rc : List S74) (rl : Bool) (g0 : rn.length ≤ 2000) (g1 : rc.length ≤ 2000) W A0 c0 A1 c1 B0 d0 B1 d1 (x0 : Kd.C k72 W A0 rn.length rn) (y0 : rn.length ≤ c0) (x1 : Kd.C k74 W A1 rc.length rc) (y1 : rc.length ≤ c1) (x2 : Kd.C k72 W B0 rn.length rn) (y2 : rn.length ≤ d0) (x3 : Kd.C k74 W B1 rc.length rc) (y3 : rc.length ≤ d1) => r8_Same.calls (rn.length + rc.length + 3) rb ra A0 c0 rn A1 c1 rc rl rb ra B0 d0 rn B1 d1 rc rl true W x0 y0 x1 y1 x2 y2 x3 y3 (same_refl ⟨g0, g1⟩ (by omega)))
  generalize rightP b a ns cs cl = rt at *
  clear hK hbx hns hcs hc0 hc1 e1 e2
  generalize labelS b a ns cs cl s = rr at *
  obtain ⟨rs, rb, ra, rn, rc, rl, re⟩ := rr
  dsimp only at hlen
  have HT := Lib.hid (HT.out rb ra rn rc rl (by omega) (by omega))
  clear hlen hl0 hl1
  go_wp2_with (first | (go_at_call 35; with_reducible refine (HR.out _ HB.out).mono ?_; rintro e W2 ⟨v0_, v1_, rfl, h0, h1, hb⟩; obtain ⟨Ba, da, rfl⟩ := Kd.R_slice h0; obtain ⟨Ea, ea, rfl⟩ := Kd.R_slice h1; have Ha0 := Lib.hid h0; have Ha1 := Lib.hid h1; have W2B := Lib.hid (HB.out.trans (hb.mono HB.out.size)); have BX2 := Lib.hid (blk_same BX.out hb); have bz_0 := (fun o : Obj => (blk_cell (bkA BX2.out o) 0).trans rfl); have bz_1 := (fun o : Obj => (blk_cell (bkA BX2.out o) 1).trans rfl); have bz_2 := (fun o : Obj => (blk_cell (bkA BX2.out o) 2).trans rfl); have bz_3 := (fun o : Obj => (blk_cell (bkA BX2.out o) 3).trans rfl); have bz_4 := (fun o : Obj => (blk_cell (bkA BX2.out o) 4).trans rfl); clear hb h0 h1) | (go_at_call 36; with_reducible refine (HS.out _ (below_alloc W2B.out _)).mono ?_; rintro e W3 ⟨v0_, v1_, rfl, h0, h1, hb⟩; obtain ⟨Bb, db, rfl⟩ := Kd.R_slice h0; obtain ⟨Eb, eb, rfl⟩ := Kd.R_slice h1; have Hb0 := Lib.hid h0; have Hb1 := Lib.hid h1; have BP := Lib.hid (blk_same (heap_alloc_new W2 (.cells #[.string rb, .int .i64 ra, .slice Ba rn.length da, .slice Ea rc.length ea, .bool rl] 50)) hb); have BX3 := Lib.hid (blk_same (bkA BX2.out (.cells #[.string rb, .int .i64 ra, .slice Ba rn.length da, .slice Ea rc.length ea, .bool rl] 50)) hb); have Ha2 := Lib.hid (Kd.R_below (Kd.R_alloc Ha0.out _) hb); have Ha3 := Lib.hid (Kd.R_below (Kd.R_alloc Ha1.out _) hb); have W3B := Lib.hid ((below_alloc W2B.out (.cells #[.string rb, .int .i64 ra, .slice Ba rn.length da, .slice Ea rc.length ea, .bool rl] 50)).trans (hb.mono (below_alloc W2B.out (.cells #[.string rb, .int .i64 ra, .slice Ba rn.length da, .slice Ea rc.length ea, .bool rl] 50)).size)); clear hb h0 h1))
  generalize hX : World.alloc W3 _ = X
  have LB0 : Below W3.heap.size W3 X := by rw [← hX]; exact below_alloc (Below.refl _ _) _
  have BQ := (show X.heap[W3.heap.size]? = some (.cells #[.string rb, .int .i64 ra, .slice Bb rn.length db, .slice Eb rc.length eb, .bool rl] 50) by rw [← hX]; exact heap_alloc_new W3 _)
  have BP1 := blk_same BP.out LB0
  have BX4 := blk_same BX3.out LB0
  have XB_ := Lib.hid (W3B.out.trans (LB0.mono W3B.out.size))
  have g0 := Lib.hid (Kd.R_below Ha2.out LB0)
  have g1 := Lib.hid (Kd.R_below Ha3.out LB0)
  have g2 := Lib.hid (Kd.R_below Hb0.out LB0)
  have g3 := Lib.hid (Kd.R_below Hb1.out LB0)
  have hs : ∀ q : XB.In (Below X.heap.size X), Calls Try.prog 32 #[.agg #[.string rb, .int .i64 ra, .slice Ba rn.length da, .slice Ea rc.length ea, .bool rl], .agg #[.string rb, .int .i64 ra, .slice Bb rn.length db, .slice Eb rc.length eb, .bool rl]] q.w fun e w' => e = .returned (.bool true) ∧ Below q.w.heap.size q.w w' :=
    fun q => HT.out q.w _ _ _ _ _ _ _ _ (Kd.R_reads' (Kd.R_below g0.out q.h)).2.2 (Kd.R_reads' g0.out).2.1 (Kd.R_reads' (Kd.R_below g1.out q.h)).2.2 (Kd.R_reads' g1.out).2.1 (Kd.R_reads' (Kd.R_below g2.out q.h)).2.2 (Kd.R_reads' g2.out).2.1 (Kd.R_reads' (Kd.R_below g3.out q.h)).2.2 (Kd.R_reads' g3.out).2.1
  have hi : ∀ q : XB.In (Below X.heap.size X), Calls Try.prog 37 #[.agg #[.string b, .int .i64 a, .slice A0 ns.length c0, .slice A1 cs.length c1, .bool cl]] q.w fun e w' => e = .returned (.bool rt) ∧ Below q.w.heap.size q.w w' := fun q => HI.out q.w (XB_.out.trans (q.h.mono XB_.out.size))
  have hk : ∀ q : XB.In (Below X.heap.size X), Calls Try.prog 38 #[.agg #[.string b, .int .i64 a, .slice A0 ns.length c0, .slice A1 cs.length c1, .bool cl]] q.w fun e w' => e = .returned (.bool rt) ∧ Below q.w.heap.size q.w w' := fun q => HJ.out q.w (XB_.out.trans (q.h.mono XB_.out.size))
  have xa_0 := (fun q : XB.In (Below X.heap.size X) => (blk_cell (blk_same BX4 q.h) 0).trans rfl)
  have xa_1 := (fun q : XB.In (Below X.heap.size X) => (blk_cell (blk_same BX4 q.h) 1).trans rfl)
  have xa_2 := (fun q : XB.In (Below X.heap.size X) => (blk_cell (blk_same BX4 q.h) 2).trans rfl)
  have xa_3 := (fun q : XB.In (Below X.heap.size X) => (blk_cell (blk_same BX4 q.h) 3).trans rfl)
  have xa_4 := (fun q : XB.In (Below X.heap.size X) => (blk_cell (blk_same BX4 q.h) 4).trans rfl)
  have xb_0 := (fun q : XB.In (Below X.heap.size X) => (blk_cell (blk_same BP1 q.h) 0).trans rfl)
  have xb_1 := (fun q : XB.In (Below X.heap.size X) => (blk_cell (blk_same BP1 q.h) 1).trans rfl)
  have xb_2 := (fun q : XB.In (Below X.heap.size X) => (blk_cell (blk_same BP1 q.h) 2).trans rfl)
  have xb_3 := (fun q : XB.In (Below X.heap.size X) => (blk_cell (blk_same BP1 q.h) 3).trans rfl)
  have xb_4 := (fun q : XB.In (Below X.heap.size X) => (blk_cell (blk_same BP1 q.h) 4).trans rfl)
  have xc_0 := (fun q : XB.In (Below X.heap.size X) => (blk_cell (blk_same BQ q.h) 0).trans rfl)
  have xc_1 := (fun q : XB.In (Below X.heap.size X) => (blk_cell (blk_same BQ q.h) 1).trans rfl)
  have xc_2 := (fun q : XB.In (Below X.heap.size X) => (blk_cell (blk_same BQ q.h) 2).trans rfl)
  have xc_3 := (fun q : XB.In (Below X.heap.size X) => (blk_cell (blk_same BQ q.h) 3).trans rfl)
  have xc_4 := (fun q : XB.In (Below X.heap.size X) => (blk_cell (blk_same BQ q.h) 4).trans rfl)
  clear hX LB0 BQ BP1 BX4 BX BX2 BX3 BP Ha0 Ha1 Ha2 Ha3 Hb0 Hb1 W2B W3B HR HS HI HJ HT g0 g1 g2 g3 HB bx_0 bx_1 bx_2 bx_3 bx_4 bz_0 bz_1 bz_2 bz_3 bz_4 hrow
  haveI hne : Nonempty (XB.In (Below X.heap.size X)) := ⟨⟨X.drew, below_drew1 (Below.refl _ _)⟩⟩
  refine XB.region_all (fun w' => ∃ q : XB.In (Below X.heap.size X), w' = q.w) (by kernel_rfl) (by kernel_rfl) ⟨⟨X.drew, below_drew1 (Below.refl _ _)⟩, rfl⟩ ?_
  iterate 21 quiet_step (first | (go_at_call 32; with_reducible exact XB.in_belowB (hs _)) | (go_at_call 37; with_reducible exact XB.in_belowB (hi _)) | (go_at_call 38; with_reducible exact XB.in_belowB (hk _)))
  refine wpQuiet_nil ?_
  rintro Y ⟨⟨_, hY⟩, rfl⟩
  have YB := Lib.hid (XB_.out.trans (hY.mono XB_.out.size))
  clear hY hs hi hk hne
  go_wp2
  exact HK.out _ _ _ _ _ _ _ _ _ _ _ _ _ _ _ _ _ _ _ _ _ _ _ _ _ _ _ _ _ _ _ _ _ _ _ _ _ _ _ _ _ _ _ _ _ _ _ YB.out
end Go.Proofs.Ytmkncddbecmlpaa.Pr
end
section
namespace Go.Proofs.Ytmkncddbecmlpaa.Pr
open Go.RowKit Go.Shelf Go.Proofs.Ytmkncddbecmlpaa.XB Go.Proofs.YtmkncddbecmlpaaW.PrintWords
attribute [local go_sem] Oper.semAt_some
set_option linter.unusedVariables false
set_option linter.unusedSimpArgs false
set_option maxRecDepth 100000
noncomputable def it2body : Code := (Try.f8.body.map fun c => (allLoops c).getD 2 .skip).getD .skip
set_option maxHeartbeats 8000000 in
theorem it2_round {K : Act → World → Prop} {Q : Exit → Act → World → Prop} (j g c gx : Nat) (hj : j < 3) (l t : ByteArray) {b : ByteArray} {a : Int} {ns : List S72} {cs : List S74} {cl : Bool} {A0 A1 : Option Addr} {c0 c1 : Nat} (wr : World)
    (hr0 : wr.cell? ⟨g, j * 2, none⟩ = some (.string l)) (hr1 : wr.cell? ⟨g, j * 2 + 1, none⟩ = some (.string t)) (hbx : wr.heap[gx]? = some (.cells #[.string b, .int .i64 a, .slice A0 ns.length c0, .slice A1 cs.length c1, .bool cl] 50 (0, 0)))
    (hns : Kd.C k72 wr A0 ns.length ns) (hc0 : ns.length ≤ c0) (hcs : Kd.C k74 wr A1 cs.length cs) (hc1 : cs.length ≤ c1) (hl0 : ns.length ≤ 18) (hl1 : cs.length ≤ 18)
    {p0 p1 p2 p3 p4 p5 p6 p7 p8 p9 p10 p11 p12 p13 p14 p15 p16 p17 p18 p19 p20 p21 p22 p23 p24 p25 p26 p27 p29 p30 p31 p32 p33 p34 p35 p36 p37 p53 p54 p55 p56 p57 p58 p59 p60 p61 p62 p63 p64 p65 p66 p67 p68 p69 p70 p71 p72 p73 p74 p75 p76 p77 p78 p79 p80 p81 p82 p83 p84 p85 p86 p87 p88 p89 p90 p91 p92 p93 p94 p95 p96 p97 p98 p99 p100 p101 p102 p103 p104 p105 p106 p107 p108 p109 p110 p111 p112 p113 p114 p115 p116 p117 p118 p119 p120 p121 p122 p123 p124 p125 p126 p127 p128 p129 p130 p131 p132 p133 p134 p135 p136 p137 p138 p139 p140 p141 p142 p143 p144 p145 p146 p147 p148 p149 p150 p151 p152 p153 p154 p155 p156 p157 p158 p159 p160 p161 p162 p163 p164 p165 p166 p167 p168 p169 p170 p171 p172 p173 p174 p175 p176 p177 p178 p179 p180 p181 p182 p183 p184 p185 p186 p187 p188 p189 p190 p191 p192 p193 p194 p195 p196 p197 p198 p199 p200 p201 p202 p203 p204 p205 p206 p207 p208 p209 p210 p211 p212 p213 p214 p215 p216 p217 p218 p219 p220 p221 p222 p223 p224 p225 p226 p227 p323 p324 : Value} {u38 u39 u40 u41 u42 u43 u44 u45 u46 u47 u48 u49 u50 u51 u52 u231 u232 u233 u234 u235 u236 u237 u238 u239 u240 u241 u242 u243 u244 u245 u246 u247 u248 u249 u250 u251 u252 u253 u254 u255 u256 u257 u258 u259 u260 u261 u262 u263 u264 u265 u266 u267 u268 u269 u270 u271 u272 u273 u274 u275 u276 u277 u278 u279 u280 u281 u282 u283 u284 u285 u286 u287 u288 u289 u290 u291 u292 u293 u294 u295 u296 u297 u298 u299 u300 u301 u302 u303 u304 u305 u306 u307 u308 u309 u310 u311 u312 u313 u314 u315 u316 u317 u318 u319 u320 u321 u322 : Value}
    (hK : ∀ (v38 v39 v40 v41 v42 v43 v44 v45 v46 v47 v48 v49 v50 v51 v52 v231 v232 v233 v234 v235 v236 v237 v238 v239 v240 v241 v242 v243 v244 v245 v246 v247 v248 v249 v250 v251 v252 v253 v254 v255 v256 v257 v258 v259 v260 v261 v262 v263 v264 v265 v266 v267 v268 v269 v270 v271 v272 v273 v274 v275 v276 v277 v278 v279 v280 v281 v282 v283 v284 v285 v286 v287 v288 v289 v290 v291 v292 v293 v294 v295 v296 v297 v298 v299 v300 v301 v302 v303 v304 v305 v306 v307 v308 v309 v310 v311 v312 v313 v314 v315 v316 v317 v318 v319 v320 v321 v322 : Value) (W' : World), Below wr.heap.size wr W' → K ⟨#[p0, p1, p2, p3, p4, p5, p6, p7, p8, p9, p10, p11, p12, p13, p14, p15, p16, p17, p18, p19, p20, p21, p22, p23, p24, p25, p26, p27, .pointer (some ⟨gx, 0, none⟩), p29, p30, p31, p32, p33, p34, p35, p36, p37, v38, v39, v40, v41, v42, v43, v44, v45, v46, v47, v48, v49, v50, v51, v52, p53, p54, p55, p56, p57, p58, p59, p60, p61, p62, p63, p64, p65, p66, p67, p68, p69, p70, p71, p72, p73, p74, p75, p76, p77, p78, p79, p80, p81, p82, p83, p84, p85, p86, p87, p88, p89, p90, p91, p92, p93, p94, p95, p96, p97, p98, p99, p100, p101, p102, p103, p104, p105, p106, p107, p108, p109, p110, p111, p112, p113, p114, p115, p116, p117, p118, p119, p120, p121, p122, p123, p124, p125, p126, p127, p128, p129, p130, p131, p132, p133, p134, p135, p136, p137, p138, p139, p140, p141, p142, p143, p144, p145, p146, p147, p148, p149, p150, p151, p152, p153, p154, p155, p156, p157, p158, p159, p160, p161, p162, p163, p164, p165, p166, p167, p168, p169, p170, p171, p172, p173, p174, p175, p176, p177, p178, p179, p180, p181, p182, p183, p184, p185, p186, p187, p188, p189, p190, p191, p192, p193, p194, p195, p196, p197, p198, p199, p200, p201, p202, p203, p204, p205, p206, p207, p208, p209, p210, p211, p212, p213, p214, p215, p216, p217, p218, p219, p220, p221, p222, p223, p224, p225, p226, p227, .slice (some ⟨g, 0, none⟩) 3 c, .int .i64 3, .int .i64 ((j : Int) + 1), v231, v232, v233, v234, v235, v236, v237, v238, v239, v240, v241, v242, v243, v244, v245, v246, v247, v248, v249, v250, v251, v252, v253, v254, v255, v256, v257, v258, v259, v260, v261, v262, v263, v264, v265, v266, v267, v268, v269, v270, v271, v272, v273, v274, v275, v276, v277, v278, v279, v280, v281, v282, v283, v284, v285, v286, v287, v288, v289, v290, v291, v292, v293, v294, v295, v296, v297, v298, v299, v300, v301, v302, v303, v304, v305, v306, v307, v308, v309, v310, v311, v312, v313, v314, v315, v316, v317, v318, v319, v320, v321, v322, p323, p324], []⟩ W') :
    Code.wp Try.prog it2body (Exit.then K Q) ⟨#[p0, p1, p2, p3, p4, p5, p6, p7, p8, p9, p10, p11, p12, p13, p14, p15, p16, p17, p18, p19, p20, p21, p22, p23, p24, p25, p26, p27, .pointer (some ⟨gx, 0, none⟩), p29, p30, p31, p32, p33, p34, p35, p36, p37, u38, u39, u40, u41, u42, u43, u44, u45, u46, u47, u48, u49, u50, u51, u52, p53, p54, p55, p56, p57, p58, p59, p60, p61, p62, p63, p64, p65, p66, p67, p68, p69, p70, p71, p72, p73, p74, p75, p76, p77, p78, p79, p80, p81, p82, p83, p84, p85, p86, p87, p88, p89, p90, p91, p92, p93, p94, p95, p96, p97, p98, p99, p100, p101, p102, p103, p104, p105, p106, p107, p108, p109, p110, p111, p112, p113, p114, p115, p116, p117, p118, p119, p120, p121, p122, p123, p124, p125, p126, p127, p128, p129, p130, p131, p132, p133, p134, p135, p136, p137, p138, p139, p140, p141, p142, p143, p144, p145, p146, p147, p148, p149, p150, p151, p152, p153, p154, p155, p156, p157, p158, p159, p160, p161, p162, p163, p164, p165, p166, p167, p168, p169, p170, p171, p172, p173, p174, p175, p176, p177, p178, p179, p180, p181, p182, p183, p184, p185, p186, p187, p188, p189, p190, p191, p192, p193, p194, p195, p196, p197, p198, p199, p200, p201, p202, p203, p204, p205, p206, p207, p208, p209, p210, p211, p212, p213, p214, p215, p216, p217, p218, p219, p220, p221, p222, p223, p224, p225, p226, p227, .slice (some ⟨g, 0, none⟩) 3 c, .int .i64 3, .int .i64 (j : Int), u231, u232, u233, u234, u235, u236, u237, u238, u239, u240, u241, u242, u243, u244, u245, u246, u247, u248, u249, u250, u251, u252, u253, u254, u255, u256, u257, u258, u259, u260, u261, u262, u263, u264, u265, u266, u267, u268, u269, u270, u271, u272, u273, u274, u275, u276, u277, u278, u279, u280, u281, u282, u283, u284, u285, u286, u287, u288, u289, u290, u291, u292, u293, u294, u295, u296, u297, u298, u299, u300, u301, u302, u303, u304, u305, u306, u307, u308, u309, u310, u311, u312, u313, u314, u315, u316, u317, u318, u319, u320, u321, u322, p323, p324], []⟩ wr := by
  conv => arg 2; whnf
  have HK := Lib.hid hK
  have j0 : (j : Int) < 3 := by omega
  have HB : Hid (Below wr.heap.size wr wr) := Lib.hid (Below.refl _ _)
  have BX := Lib.hid hbx
  have bx_0 := (fun o : Obj => (blk_cell (bkA hbx o) 0).trans rfl)
  have bx_1 := (fun o : Obj => (blk_cell (bkA hbx o) 1).trans rfl)
  have bx_2 := (fun o : Obj => (blk_cell (bkA hbx o) 2).trans rfl)
  have bx_3 := (fun o : Obj => (blk_cell (bkA hbx o) 3).trans rfl)
  have bx_4 := (fun o : Obj => (blk_cell (bkA hbx o) 4).trans rfl)
  have hlen := sealS_len (b := b) (a := a) (ns := ns) (cs := cs) (cl := cl) l t
  have e1 : ideal_Seal.f 2 b a ns cs cl l t = some ((sealS b a ns cs cl l t).1, (sealS b a ns cs cl l t).2.1, (sealS b a ns cs cl l t).2.2.1, (sealS b a ns cs cl l t).2.2.2.1, (sealS b a ns cs cl l t).2.2.2.2.1, (sealS b a ns cs cl l t).2.2.2.2.2.1, (sealS b a ns cs cl l t).2.2.2.2.2.2) := seal_eq (by omega) (by omega) l t 0
  have e2 : r8_Seal.f 3301 b a ns cs cl l t = some ((sealS b a ns cs cl l t).1, (sealS b a ns cs cl l t).2.1, (sealS b a ns cs cl l t).2.2.1, (sealS b a ns cs cl l t).2.2.2.1, (sealS b a ns cs cl l t).2.2.2.2.1, (sealS b a ns cs cl l t).2.2.2.2.2.1, (sealS b a ns cs cl l t).2.2.2.2.2.2) := rseal_eq (by omega) (by omega) l t (by omega)
  have e3 : ideal_Open.f b a ns cs cl l t = some ((openS b a ns cs cl l t).1, (openS b a ns cs cl l t).2) := iopen_eq l t
  have e4 : r8_Open.f 3301 b a ns cs cl l t = some ((openS b a ns cs cl l t).1, (openS b a ns cs cl l t).2) := ropen_eq (by omega) (by omega) l t (by omega)
  have HR := Lib.hid (fun W (hb : Below wr.heap.size wr W) => ideal_Seal.calls 2 b a A0 c0 ns A1 c1 cs cl l t _ _ _ _ _ _ _ W (Kd.C_below hns hb) hc0 (Kd.C_below hcs hb) hc1 e1)
  have HS := Lib.hid (fun W (hb : Below wr.heap.size wr W) => r8_Seal.calls 3301 b a A0 c0 ns A1 c1 cs cl l t _ _ _ _ _ _ _ W (Kd.C_below hns hb) hc0 (Kd.C_below hcs hb) hc1 e2)
  have HO1 := Lib.hid (fun W (hb : Below wr.heap.size wr W) => ideal_Open.calls b a A0 c0 ns A1 c1 cs cl l t _ _ W (Kd.C_below hns hb) hc0 (Kd.C_below hcs hb) hc1 e3)
  have HO2 := Lib.hid (fun W (hb : Below wr.heap.size wr W) => r8_Open.calls 3301 b a A0 c0 ns A1 c1 cs cl l t _ _ W (Kd.C_below hns hb) hc0 (Kd.C_below hcs hb) hc1 e4)
  have HP1 := Lib.hid (fun (rs rb : ByteArray) (ra : Int) (rn : List S72) (rc : List S74) (rl : Bool) W A0 c0 A1 c1 (x0 : Kd.C k72 W A0 rn.length rn) (y0 : rn.length ≤ c0) (x1 : Kd.C k74 W A1 rc.length rc) (y1 : rc.length ≤ c1) => ideal_Open.calls rb ra A0 c0 rn A1 c1 rc rl l rs _ _ W x0 y0 x1 y1 (show ideal_Open.f rb ra rn rc rl l rs = some ((openS rb ra rn rc rl l rs).1, (openS rb ra rn rc rl l rs).2) from iopen_eq l rs))
  have HP2 := Lib.hid (fun (rs rb : ByteArray) (ra : Int) (rn : List S72) (rc : List S74) (rl : Bool) (g0 : rn.length ≤ 20) (g1 : rc.length ≤ 20) W A0 c0 A1 c1 (x0 : Kd.C k72 W A0 rn.length rn) (y0 : rn.length ≤ c0) (x1 : Kd.C k74 W A1 rc.length rc) (y1 : rc.length ≤ c1) => r8_Open.calls 3301 rb ra A0 c0 rn A1 c1 rc rl l rs _ _ W x0 y0 x1 y1 (show r8_Open.f 3301 rb ra rn rc rl l rs = some ((openS rb ra rn rc rl l rs).1, (openS rb ra rn rc rl l rs).2) from ropen_eq g0 g1 l rs (by omega)))
  have HT := Lib.hid (fun (rb : ByteArray) (ra : Int) (rn : List S72) (rc : List S74) (rl : Bool) (g0 : rn.length ≤ 2000) (g1 : rc.length ≤ 2000) W A0 c0 A1 c1 B0 d0 B1 d1 (x0 : Kd.C k72 W A0 rn.length rn) (y0 : rn.length ≤ c0) (x1 : Kd.C k74 W A1 rc.length rc) (y1 : rc.length ≤ c1) (x2 : Kd.C k72 W B0 rn.length rn) (y2 : rn.length ≤ d0) (x3 : Kd.C k74 W B1 rc.length rc) (y3 : rc.length ≤ d1) => r8_Same.calls (rn.length + rc.length + 3) rb ra A0 c0 rn A1 c1 rc rl rb ra B0 d0 rn B1 d1 rc rl true W x0 y0 x1 y1 x2 y2 x3 y3 (same_refl ⟨g0, g1⟩ (by omega)))
  clear hK hbx hns hcs hc0 hc1 e1 e2 e3 e4
  generalize openS b a ns cs cl l t = oo at *
  obtain ⟨os, oe⟩ := oo
  generalize sealS b a ns cs cl l t = rr at *
  obtain ⟨rs, rb, ra, rn, rc, rl, re⟩ := rr
  dsimp only at hlen
  have HT := Lib.hid (HT.out rb ra rn rc rl (by omega) (by omega))
  have HP1 := Lib.hid (HP1.out rs rb ra rn rc rl)
  have HP2 := Lib.hid (HP2.out rs rb ra rn rc rl (by omega) (by omega))
  clear hlen hl0 hl1
  generalize openS rb ra rn rc rl l rs = oo at *
  obtain ⟨zs, ze⟩ := oo
  go_wp2_with (first | (go_at_call 41; with_reducible refine (HR.out _ (below_alloc HB.out _)).mono ?_; rintro e W2 ⟨v0_, v1_, rfl, h0, h1, hb⟩; obtain ⟨Ba, da, rfl⟩ := Kd.R_slice h0; obtain ⟨Ea, ea, rfl⟩ := Kd.R_slice h1; have Ha0 := Lib.hid h0; have Ha1 := Lib.hid h1; have W2B := Lib.hid ((below_alloc HB.out (.cells #[.string l, .string t] 63)).trans (hb.mono (below_alloc HB.out (.cells #[.string l, .string t] 63)).size)); have BX2 := Lib.hid (blk_same (bkA BX.out (.cells #[.string l, .string t] 63)) hb); have BP2 := Lib.hid (blk_same (heap_alloc_new wr (.cells #[.string l, .string t] 63)) hb); clear bx_0 bx_1 bx_2 bx_3 bx_4 hr0 hr1; have bx_0 := (fun o : Obj => (blk_cell (bkA BX2.out o) 0).trans rfl); have bx_1 := (fun o : Obj => (blk_cell (bkA BX2.out o) 1).trans rfl); have bx_2 := (fun o : Obj => (blk_cell (bkA BX2.out o) 2).trans rfl); have bx_3 := (fun o : Obj => (blk_cell (bkA BX2.out o) 3).trans rfl); have bx_4 := (fun o : Obj => (blk_cell (bkA BX2.out o) 4).trans rfl); have bp_0 := (fun o : Obj => (blk_cell (bkA BP2.out o) 0).trans rfl); have bp_1 := (fun o : Obj => (blk_cell (bkA BP2.out o) 1).trans rfl); clear hb h0 h1) | (go_at_call 42; with_reducible refine (HS.out _ (below_alloc W2B.out _)).mono ?_; rintro e W3 ⟨v0_, v1_, rfl, h0, h1, hb⟩; obtain ⟨Bb, db, rfl⟩ := Kd.R_slice h0; obtain ⟨Eb, eb, rfl⟩ := Kd.R_slice h1; have Hb0 := Lib.hid h0; have Hb1 := Lib.hid h1; have BQ3 := Lib.hid (blk_same (heap_alloc_new W2 (.cells #[.string rb, .int .i64 ra, .slice Ba rn.length da, .slice Ea rc.length ea, .bool rl] 50)) hb); have BX3 := Lib.hid (blk_same (bkA BX2.out (.cells #[.string rb, .int .i64 ra, .slice Ba rn.length da, .slice Ea rc.length ea, .bool rl] 50)) hb); have BP3 := Lib.hid (blk_same (bkA BP2.out (.cells #[.string rb, .int .i64 ra, .slice Ba rn.length da, .slice Ea rc.length ea, .bool rl] 50)) hb); have Ha2 := Lib.hid (Kd.R_below (Kd.R_alloc Ha0.out _) hb); have Ha3 := Lib.hid (Kd.R_below (Kd.R_alloc Ha1.out _) hb); have W3B := Lib.hid ((below_alloc W2B.out (.cells #[.string rb, .int .i64 ra, .slice Ba rn.length da, .slice Ea rc.length ea, .bool rl] 50)).trans (hb.mono (below_alloc W2B.out (.cells #[.string rb, .int .i64 ra, .slice Ba rn.length da, .slice Ea rc.length ea, .bool rl] 50)).size)); clear bx_0 bx_1 bx_2 bx_3 bx_4 bp_0 bp_1; have bx_0 := (fun o : Obj => (blk_cell (bkA BX3.out o) 0).trans rfl); have bx_1 := (fun o : Obj => (blk_cell (bkA BX3.out o) 1).trans rfl); have bx_2 := (fun o : Obj => (blk_cell (bkA BX3.out o) 2).trans rfl); have bx_3 := (fun o : Obj => (blk_cell (bkA BX3.out o) 3).trans rfl); have bx_4 := (fun o : Obj => (blk_cell (bkA BX3.out o) 4).trans rfl); have bp_0 := (fun o : Obj => (blk_cell (bkA BP3.out o) 0).trans rfl); have bp_1 := (fun o : Obj => (blk_cell (bkA BP3.out o) 1).trans rfl); clear hb h0 h1) | (go_at_call 43; with_reducible refine (HO1.out _ (below_alloc W3B.out _)).mono ?_; rintro e W4 ⟨rfl, hb⟩; have BX4 := Lib.hid (blk_same (bkA BX3.out (.cells #[.string rb, .int .i64 ra, .slice Bb rn.length db, .slice Eb rc.length eb, .bool rl] 50)) hb); have BP4 := Lib.hid (blk_same (bkA BP3.out (.cells #[.string rb, .int .i64 ra, .slice Bb rn.length db, .slice Eb rc.length eb, .bool rl] 50)) hb); have BQ4 := Lib.hid (blk_same (bkA BQ3.out (.cells #[.string rb, .int .i64 ra, .slice Bb rn.length db, .slice Eb rc.length eb, .bool rl] 50)) hb); have BR4 := Lib.hid (blk_same (heap_alloc_new W3 (.cells #[.string rb, .int .i64 ra, .slice Bb rn.length db, .slice Eb rc.length eb, .bool rl] 50)) hb); have G40 := Lib.hid (Kd.R_below (Kd.R_alloc Ha2.out (.cells #[.string rb, .int .i64 ra, .slice Bb rn.length db, .slice Eb rc.length eb, .bool rl] 50)) hb); have G41 := Lib.hid (Kd.R_below (Kd.R_alloc Ha3.out (.cells #[.string rb, .int .i64 ra, .slice Bb rn.length db, .slice Eb rc.length eb, .bool rl] 50)) hb); have G42 := Lib.hid (Kd.R_below (Kd.R_alloc Hb0.out (.cells #[.string rb, .int .i64 ra, .slice Bb rn.length db, .slice Eb rc.length eb, .bool rl] 50)) hb); have G43 := Lib.hid (Kd.R_below (Kd.R_alloc Hb1.out (.cells #[.string rb, .int .i64 ra, .slice Bb rn.length db, .slice Eb rc.length eb, .bool rl] 50)) hb); have W4B := Lib.hid ((below_alloc W3B.out (.cells #[.string rb, .int .i64 ra, .slice Bb rn.length db, .slice Eb rc.length eb, .bool rl] 50)).trans (hb.mono (below_alloc W3B.out (.cells #[.string rb, .int .i64 ra, .slice Bb rn.length db, .slice Eb rc.length eb, .bool rl] 50)).size)); clear bx_0 bx_1 bx_2 bx_3 bx_4 bp_0 bp_1; have bx_0 := (blk_cell BX4.out 0).trans rfl; have bx_1 := (blk_cell BX4.out 1).trans rfl; have bx_2 := (blk_cell BX4.out 2).trans rfl; have bx_3 := (blk_cell BX4.out 3).trans rfl; have bx_4 := (blk_cell BX4.out 4).trans rfl; have bp_0 := (blk_cell BP4.out 0).trans rfl; have bp_1 := (blk_cell BP4.out 1).trans rfl; have bq_0 := (blk_cell BQ4.out 0).trans rfl; have bq_1 := (blk_cell BQ4.out 1).trans rfl; have bq_2 := (blk_cell BQ4.out 2).trans rfl; have bq_3 := (blk_cell BQ4.out 3).trans rfl; have bq_4 := (blk_cell BQ4.out 4).trans rfl; have br_0 := (blk_cell BR4.out 0).trans rfl; have br_1 := (blk_cell BR4.out 1).trans rfl; have br_2 := (blk_cell BR4.out 2).trans rfl; have br_3 := (blk_cell BR4.out 3).trans rfl; have br_4 := (blk_cell BR4.out 4).trans rfl; clear hb) | (go_at_call 44; with_reducible refine (HO2.out _ W4B.out).mono ?_; rintro e W5 ⟨rfl, hb⟩; have BX5 := Lib.hid (blk_same BX4.out hb); have BP5 := Lib.hid (blk_same BP4.out hb); have BQ5 := Lib.hid (blk_same BQ4.out hb); have BR5 := Lib.hid (blk_same BR4.out hb); have G50 := Lib.hid (Kd.R_below G40.out hb); have G51 := Lib.hid (Kd.R_below G41.out hb); have G52 := Lib.hid (Kd.R_below G42.out hb); have G53 := Lib.hid (Kd.R_below G43.out hb); have W5B := Lib.hid (W4B.out.trans (hb.mono W4B.out.size)); clear bx_0 bx_1 bx_2 bx_3 bx_4 bp_0 bp_1 bq_0 bq_1 bq_2 bq_3 bq_4 br_0 br_1 br_2 br_3 br_4; have bx_0 := (blk_cell BX5.out 0).trans rfl; have bx_1 := (blk_cell BX5.out 1).trans rfl; have bx_2 := (blk_cell BX5.out 2).trans rfl; have bx_3 := (blk_cell BX5.out 3).trans rfl; have bx_4 := (blk_cell BX5.out 4).trans rfl; have bp_0 := (blk_cell BP5.out 0).trans rfl; have bp_1 := (blk_cell BP5.out 1).trans rfl; have bq_0 := (blk_cell BQ5.out 0).trans rfl; have bq_1 := (blk_cell BQ5.out 1).trans rfl; have bq_2 := (blk_cell BQ5.out 2).trans rfl; have bq_3 := (blk_cell BQ5.out 3).trans rfl; have bq_4 := (blk_cell BQ5.out 4).trans rfl; have br_0 := (blk_cell BR5.out 0).trans rfl; have br_1 := (blk_cell BR5.out 1).trans rfl; have br_2 := (blk_cell BR5.out 2).trans rfl; have br_3 := (blk_cell BR5.out 3).trans rfl; have br_4 := (blk_cell BR5.out 4).trans rfl; clear hb) | (go_at_call 43; with_reducible refine (HP1.out _ _ _ _ _ (Kd.R_reads' G52.out).2.2 (Kd.R_reads' G52.out).2.1 (Kd.R_reads' G53.out).2.2 (Kd.R_reads' G53.out).2.1).mono ?_; rintro e W6 ⟨rfl, hb⟩; have BX6 := Lib.hid (blk_same BX5.out hb); have BP6 := Lib.hid (blk_same BP5.out hb); have BQ6 := Lib.hid (blk_same BQ5.out hb); have BR6 := Lib.hid (blk_same BR5.out hb); have G60 := Lib.hid (Kd.R_below G50.out hb); have G61 := Lib.hid (Kd.R_below G51.out hb); have G62 := Lib.hid (Kd.R_below G52.out hb); have G63 := Lib.hid (Kd.R_below G53.out hb); have W6B := Lib.hid (W5B.out.trans (hb.mono W5B.out.size)); clear bx_0 bx_1 bx_2 bx_3 bx_4 bp_0 bp_1 bq_0 bq_1 bq_2 bq_3 bq_4 br_0 br_1 br_2 br_3 br_4; have bx_0 := (blk_cell BX6.out 0).trans rfl; have bx_1 := (blk_cell BX6.out 1).trans rfl; have bx_2 := (blk_cell BX6.out 2).trans rfl; have bx_3 := (blk_cell BX6.out 3).trans rfl; have bx_4 := (blk_cell BX6.out 4).trans rfl; have bp_0 := (blk_cell BP6.out 0).trans rfl; have bp_1 := (blk_cell BP6.out 1).trans rfl; have bq_0 := (blk_cell BQ6.out 0).trans rfl; have bq_1 := (blk_cell BQ6.out 1).trans rfl; have bq_2 := (blk_cell BQ6.out 2).trans rfl; have bq_3 := (blk_cell BQ6.out 3).trans rfl; have bq_4 := (blk_cell BQ6.out 4).trans rfl; have br_0 := (blk_cell BR6.out 0).trans rfl; have br_1 := (blk_cell BR6.out 1).trans rfl; have br_2 := (blk_cell BR6.out 2).trans rfl; have br_3 := (blk_cell BR6.out 3).trans rfl; have br_4 := (blk_cell BR6.out 4).trans rfl; clear hb) | (go_at_call 44; with_reducible refine (HP2.out _ _ _ _ _ (Kd.R_reads' G62.out).2.2 (Kd.R_reads' G62.out).2.1 (Kd.R_reads' G63.out).2.2 (Kd.R_reads' G63.out).2.1).mono ?_; rintro e W7 ⟨rfl, hb⟩; have BX7 := Lib.hid (blk_same BX6.out hb); have BP7 := Lib.hid (blk_same BP6.out hb); have BQ7 := Lib.hid (blk_same BQ6.out hb); have BR7 := Lib.hid (blk_same BR6.out hb); have G70 := Lib.hid (Kd.R_below G60.out hb); have G71 := Lib.hid (Kd.R_below G61.out hb); have G72 := Lib.hid (Kd.R_below G62.out hb); have G73 := Lib.hid (Kd.R_below G63.out hb); have W7B := Lib.hid (W6B.out.trans (hb.mono W6B.out.size)); clear bx_0 bx_1 bx_2 bx_3 bx_4 bp_0 bp_1 bq_0 bq_1 bq_2 bq_3 bq_4 br_0 br_1 br_2 br_3 br_4; have bx_0 := (blk_cell BX7.out 0).trans rfl; have bx_1 := (blk_cell BX7.out 1).trans rfl; have bx_2 := (blk_cell BX7.out 2).trans rfl; have bx_3 := (blk_cell BX7.out 3).trans rfl; have bx_4 := (blk_cell BX7.out 4).trans rfl; have bp_0 := (blk_cell BP7.out 0).trans rfl; have bp_1 := (blk_cell BP7.out 1).trans rfl; have bq_0 := (blk_cell BQ7.out 0).trans rfl; have bq_1 := (blk_cell BQ7.out 1).trans rfl; have bq_2 := (blk_cell BQ7.out 2).trans rfl; have bq_3 := (blk_cell BQ7.out 3).trans rfl; have bq_4 := (blk_cell BQ7.out 4).trans rfl; have br_0 := (blk_cell BR7.out 0).trans rfl; have br_1 := (blk_cell BR7.out 1).trans rfl; have br_2 := (blk_cell BR7.out 2).trans rfl; have br_3 := (blk_cell BR7.out 3).trans rfl; have br_4 := (blk_cell BR7.out 4).trans rfl; clear hb) | (go_at_call 32; with_reducible refine (HT.out _ _ _ _ _ _ _ _ _ (Kd.R_reads' G70.out).2.2 (Kd.R_reads' G70.out).2.1 (Kd.R_reads' G71.out).2.2 (Kd.R_reads' G71.out).2.1 (Kd.R_reads' G72.out).2.2 (Kd.R_reads' G72.out).2.1 (Kd.R_reads' G73.out).2.2 (Kd.R_reads' G73.out).2.1).mono ?_; rintro e W8 ⟨rfl, hb⟩; have W8B := Lib.hid (W7B.out.trans (hb.mono W7B.out.size)); clear hb))
  exact HK.out _ _ _ _ _ _ _ _ _ _ _ _ _ _ _ _ _ _ _ _ _ _ _ _ _ _ _ _ _ _ _ _ _ _ _ _ _ _ _ _ _ _ _ _ _ _ _ _ _ _ _ _ _ _ _ _ _ _ _ _ _ _ _ _ _ _ _ _ _ _ _ _ _ _ _ _ _ _ _ _ _ _ _ _ _ _ _ _ _ _ _ _ _ _ _ _ _ _ _ _ _ _ _ _ _ _ _ _ W8B.out
end Go.Proofs.Ytmkncddbecmlpaa.Pr
end
