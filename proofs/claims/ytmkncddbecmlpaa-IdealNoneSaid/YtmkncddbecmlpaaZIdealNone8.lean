/-
  A part of what the row IdealNone reaches, laid together by a program of this session (wip/tools/shake.py) out of this seat's texts. No condition but the ones that each lemma names.
-/
import Derived.Laws.BitsLemmas
import Derived.OpenShut
import Derived.ProofKit
import Derived.DataElems
import Derived.Test.YtmkncddbecmlpaaZIdealNone1
import Derived.Test.YtmkncddbecmlpaaZIdealNone2
import Derived.Test.YtmkncddbecmlpaaZIdealNone3
import Derived.Test.YtmkncddbecmlpaaZIdealNone5
import Derived.Test.YtmkncddbecmlpaaZIdealNone6
import Derived.Test.YtmkncddbecmlpaaZIdealNone7
set_option linter.unusedVariables false
set_option linter.unusedSimpArgs false
section
namespace Go.Proofs.Ytmkncddbecmlpaa.Pr
open Go.Proofs.Ytmkncddbecmlpaa.Sq Go.RowKit Go.Proofs.YtmkncddbecmlpaaW.PrintWords Go.Proofs.YtmkncddbecmlpaaW.PrintLast Go.Proofs.YtmkncddbecmlpaaW.PrintMore
attribute [local go_sem] max2_int min2_int max_two min_two max_three min_three max_four min_four
set_option linter.unusedVariables false
set_option linter.unusedSimpArgs false
def u8_IdealNone.l0 : Nat → Bool → ByteArray → ByteArray → Bool → Int → ByteArray → Int → List (S72) → List (S74) → Bool → Option (Bool)
 | 0, _, _, _, _, _, _, _, _, _, _ => none
 | k + 1, x9, x11, x12, x13, x14, xz14000, xz14001, xz14002, xz14003, xz14004 => if x14 < (xz14003.length : Int) then (if x13 = true then (u8_IdealNone.l0 k x9 x11 x12 true (wrap64 (x14 + 1)) xz14000 xz14001 xz14002 xz14003 xz14004) else (if 0 ≤ x14 then (if ((rd_T74 xz14003 x14).f0).toList = x11.toList then (u8_IdealNone.l0 k x9 x11 x12 (((rd_T74 xz14003 x14).f2).toList == x12.toList) (wrap64 (x14 + 1)) xz14000 xz14001 xz14002 xz14003 xz14004) else (u8_IdealNone.l0 k x9 x11 x12 false (wrap64 (x14 + 1)) xz14000 xz14001 xz14002 xz14003 xz14004)) else (none))) else ((ideal_Open.f xz14000 xz14001 xz14002 xz14003 xz14004 x11 x12).bind fun btz16 => ((ideal_Label.f k xz14000 (xz14000.size : Int) xz14002 xz14003 xz14004 (⟨#[110, 101, 118, 101, 114, 32, 97, 115, 107, 101, 100]⟩ : ByteArray)).bind fun btz19 => ((ideal_Seal.f k xz14000 (xz14000.size : Int) xz14002 xz14003 xz14004 (⟨#[48, 49, 50, 51, 52, 53, 54, 55, 56, 57, 97, 98, 99, 100, 101, 102]⟩ : ByteArray) (⟨#[110, 101, 118, 101, 114, 32, 97, 115, 107, 101, 100, 44, 32, 97, 116, 32, 97, 110, 121, 32, 116, 105, 109, 101]⟩ : ByteArray)).bind fun btz31 => ((ideal_Seal.f k xz14000 xz14001 xz14002 xz14003 xz14004 x11 (⟨#[115, 104, 111, 114, 116]⟩ : ByteArray)).bind fun btz43 => (if x9 = true then (if ((btz16.2 == 0) == x13) = true then (if x13 = true then (if btz19.2.2.2.2.2.2 = 12 then ((r8_Same.f k btz19.2.1 btz19.2.2.1 btz19.2.2.2.1 btz19.2.2.2.2.1 btz19.2.2.2.2.2.1 xz14000 (xz14000.size : Int) xz14002 xz14003 xz14004).bind fun tz55 => (if tz55 = true then (if btz31.2.2.2.2.2.2 = 12 then ((r8_Same.f k btz31.2.1 btz31.2.2.1 btz31.2.2.2.1 btz31.2.2.2.2.1 btz31.2.2.2.2.2.1 xz14000 (xz14000.size : Int) xz14002 xz14003 xz14004).bind fun tz56 => (if tz56 = true then (if btz43.2.2.2.2.2.2 = 1 then ((r8_Same.f k btz43.2.1 btz43.2.2.1 btz43.2.2.2.1 btz43.2.2.2.2.1 btz43.2.2.2.2.2.1 xz14000 xz14001 xz14002 xz14003 xz14004).bind fun tz57 => (some tz57)) else (none)) else (none))) else (none)) else (none))) else (none)) else (if btz16.2 = 11 then (if btz19.2.2.2.2.2.2 = 12 then ((r8_Same.f k btz19.2.1 btz19.2.2.1 btz19.2.2.2.1 btz19.2.2.2.2.1 btz19.2.2.2.2.2.1 xz14000 (xz14000.size : Int) xz14002 xz14003 xz14004).bind fun tz58 => (if tz58 = true then (if btz31.2.2.2.2.2.2 = 12 then ((r8_Same.f k btz31.2.1 btz31.2.2.1 btz31.2.2.2.1 btz31.2.2.2.2.1 btz31.2.2.2.2.2.1 xz14000 (xz14000.size : Int) xz14002 xz14003 xz14004).bind fun tz59 => (if tz59 = true then (if btz43.2.2.2.2.2.2 = 1 then ((r8_Same.f k btz43.2.1 btz43.2.2.1 btz43.2.2.2.1 btz43.2.2.2.2.1 btz43.2.2.2.2.2.1 xz14000 xz14001 xz14002 xz14003 xz14004).bind fun tz60 => (some tz60)) else (none)) else (none))) else (none)) else (none))) else (none)) else (none))) else (none)) else (none))))))
def u8_IdealNone.f (k : Nat) (l0 : List Int) (l1 : List (S46)) (a2 : ByteArray) (a3 : ByteArray) : Option (Bool) := (u8_awake.f k).bind fun tz1 => ((u8_Draws.f k l0 false).bind fun btz2 => ((u8_Ideal.f k btz2.1 btz2.2 l1).bind fun btz4 => (if 0 ≤ (mn (a2.size : Int) 100) then (if (mn (a2.size : Int) 100) ≤ (a2.size : Int) then (if 0 ≤ (mn (a3.size : Int) 100) then (if (mn (a3.size : Int) 100) ≤ (a3.size : Int) then (u8_IdealNone.l0 k tz1 (a2.extract 0 ((mn (a2.size : Int) 100) : Int).toNat) (a3.extract 0 ((mn (a3.size : Int) 100) : Int).toNat) false 0 btz4.1 btz4.2.1 btz4.2.2.1 btz4.2.2.2.1 btz4.2.2.2.2) else (none)) else (none)) else (none)) else (none))))
set_option maxHeartbeats 60000000 in
set_option maxRecDepth 100000 in
theorem u8_IdealNone.calls (k : Nat) (A0 : Option Addr) (c0 : Nat) (l0 : List Int) (A1 : Option Addr) (c1 : Nat) (l1 : List (S46)) (a2 : ByteArray) (a3 : ByteArray) (r : Bool) (w : World) (hr0 : Kd.C (Kd.int .i64) w A0 l0.length l0) (hc0 : l0.length ≤ c0) (hr1 : Kd.C k46 w A1 l1.length l1) (hc1 : l1.length ≤ c1) (h : u8_IdealNone.f k l0 l1 a2 a3 = some r) :
  Calls Try.prog 13 #[.slice A0 l0.length c0, .slice A1 l1.length c1, .string a2, .string a3] w fun e w' => e = .returned (.bool r) ∧ Below w.heap.size w w' := by
 have hu50 := Try.underlying50
 have HR0 := am hr0
 have HC0 := am hc0
 clear hr0 hc0
 have HR1 := am hr1
 have HC1 := am hc1
 clear hr1 hc1
 have HB := am (Below.refl w.heap.size w)
 have H : ((u8_awake.f k).bind fun tz1 => ((u8_Draws.f k l0 false).bind fun btz2 => ((u8_Ideal.f k btz2.1 btz2.2 l1).bind fun btz4 => (if 0 ≤ (mn (a2.size : Int) 100) then (if (mn (a2.size : Int) 100) ≤ (a2.size : Int) then (if 0 ≤ (mn (a3.size : Int) 100) then (if (mn (a3.size : Int) 100) ≤ (a3.size : Int) then (u8_IdealNone.l0 k tz1 (a2.extract 0 ((mn (a2.size : Int) 100) : Int).toNat) (a3.extract 0 ((mn (a3.size : Int) 100) : Int).toNat) false 0 btz4.1 btz4.2.1 btz4.2.2.1 btz4.2.2.2.1 btz4.2.2.2.2) else (none)) else (none)) else (none)) else (none))))) = some r := h
 clear h
 replace H := ob_ H
 obtain ⟨tz1, A50, H⟩ := H
 replace H : ((u8_Draws.f k l0 false).bind fun btz2 => ((u8_Ideal.f k btz2.1 btz2.2 l1).bind fun btz4 => (if 0 ≤ (mn (a2.size : Int) 100) then (if (mn (a2.size : Int) 100) ≤ (a2.size : Int) then (if 0 ≤ (mn (a3.size : Int) 100) then (if (mn (a3.size : Int) 100) ≤ (a3.size : Int) then (u8_IdealNone.l0 k tz1 (a2.extract 0 ((mn (a2.size : Int) 100) : Int).toNat) (a3.extract 0 ((mn (a3.size : Int) 100) : Int).toNat) false 0 btz4.1 btz4.2.1 btz4.2.2.1 btz4.2.2.2.1 btz4.2.2.2.2) else (none)) else (none)) else (none)) else (none)))) = some r := H
 have A5 := Aside0.mk A50
 clear A50
 replace H := ob_ H
 obtain ⟨⟨tz2, tz3⟩, A60, H⟩ := H
 replace H : ((u8_Ideal.f k tz2 tz3 l1).bind fun btz4 => (if 0 ≤ (mn (a2.size : Int) 100) then (if (mn (a2.size : Int) 100) ≤ (a2.size : Int) then (if 0 ≤ (mn (a3.size : Int) 100) then (if (mn (a3.size : Int) 100) ≤ (a3.size : Int) then (u8_IdealNone.l0 k tz1 (a2.extract 0 ((mn (a2.size : Int) 100) : Int).toNat) (a3.extract 0 ((mn (a3.size : Int) 100) : Int).toNat) false 0 btz4.1 btz4.2.1 btz4.2.2.1 btz4.2.2.2.1 btz4.2.2.2.2) else (none)) else (none)) else (none)) else (none))) = some r := H
 have A6 := Aside0.mk A60
 clear A60
 replace H := ob_ H
 obtain ⟨⟨tz4, tz5, tz6, tz9, tz12⟩, A70, H⟩ := H
 replace H : (if 0 ≤ (mn (a2.size : Int) 100) then (if (mn (a2.size : Int) 100) ≤ (a2.size : Int) then (if 0 ≤ (mn (a3.size : Int) 100) then (if (mn (a3.size : Int) 100) ≤ (a3.size : Int) then (u8_IdealNone.l0 k tz1 (a2.extract 0 ((mn (a2.size : Int) 100) : Int).toNat) (a3.extract 0 ((mn (a3.size : Int) 100) : Int).toNat) false 0 tz4 tz5 tz6 tz9 tz12) else (none)) else (none)) else (none)) else (none)) = some r := H
 have A7 := Aside0.mk A70
 clear A70
 obtain ⟨ji8, hji8⟩ : ∃ j_ : Int, (mn (a2.size : Int) 100) = j_ := ⟨_, rfl⟩
 replace H : (if 0 ≤ (ji8) then (if (ji8) ≤ (a2.size : Int) then (if 0 ≤ (mn (a3.size : Int) 100) then (if (mn (a3.size : Int) 100) ≤ (a3.size : Int) then (u8_IdealNone.l0 k tz1 (a2.extract 0 ((ji8) : Int).toNat) (a3.extract 0 ((mn (a3.size : Int) 100) : Int).toNat) false 0 tz4 tz5 tz6 tz9 tz12) else (none)) else (none)) else (none)) else (none)) = some r := by first | (rw [hji8] at H; exact H) | (simp only [hji8] at H ⊢; exact H)
 (try rw [hji8] at A5)
 (try rw [hji8] at A6)
 (try rw [hji8] at A7)
 (try (have hji8h : ji8 ≤ 100 := by (rw [← hji8]; unfold mn; (repeat' split) <;> omega)))
 (try (have hji8g : ji8 ≤ 64 := by omega))
 (try (have hji8l : 0 ≤ ji8 := by (rw [← hji8]; unfold mn; (repeat' split) <;> omega)))
 (try (have hji8m : 0 ≤ ji8 := by omega))
 have hji8_ : (if 100 < (a2.size : Int) then 100 else (a2.size : Int)) = ji8 := hji8
 by_cases c9 : 0 ≤ (ji8)
 rotate_left
 ·rw [if_neg c9] at H
  exact absurd H (by simp)
 rw [if_pos c9] at H
 have c9b0 := eq_true c9
 have c9b1 : decide (0 ≤ (ji8)) = true := decide_eq_true c9
 clear c9
 by_cases c10 : (ji8) ≤ (a2.size : Int)
 rotate_left
 ·rw [if_neg c10] at H
  exact absurd H (by simp)
 rw [if_pos c10] at H
 have c10b0 := eq_true c10
 have c10b1 : decide ((ji8) ≤ (a2.size : Int)) = true := decide_eq_true c10
 clear c10
 obtain ⟨sx11, hsx11⟩ : ∃ s_ : ByteArray, (a2.extract 0 ((ji8) : Int).toNat) = s_ := ⟨_, rfl⟩
 replace H : (if 0 ≤ (mn (a3.size : Int) 100) then (if (mn (a3.size : Int) 100) ≤ (a3.size : Int) then (u8_IdealNone.l0 k tz1 sx11 (a3.extract 0 ((mn (a3.size : Int) 100) : Int).toNat) false 0 tz4 tz5 tz6 tz9 tz12) else (none)) else (none)) = some r := by first | (rw [hsx11] at H; exact H) | (simp only [hsx11] at H ⊢; exact H) | exact H
 obtain ⟨ji12, hji12⟩ : ∃ j_ : Int, (mn (a3.size : Int) 100) = j_ := ⟨_, rfl⟩
 replace H : (if 0 ≤ (ji12) then (if (ji12) ≤ (a3.size : Int) then (u8_IdealNone.l0 k tz1 sx11 (a3.extract 0 ((ji12) : Int).toNat) false 0 tz4 tz5 tz6 tz9 tz12) else (none)) else (none)) = some r := by first | (rw [hji12] at H; exact H) | (simp only [hji12] at H ⊢; exact H)
 (try rw [hji12] at A5)
 (try rw [hji12] at A6)
 (try rw [hji12] at A7)
 (try (have hji12h : ji12 ≤ 100 := by (rw [← hji12]; unfold mn; (repeat' split) <;> omega)))
 (try (have hji12g : ji12 ≤ 64 := by omega))
 (try (have hji12l : 0 ≤ ji12 := by (rw [← hji12]; unfold mn; (repeat' split) <;> omega)))
 (try (have hji12m : 0 ≤ ji12 := by omega))
 have hji12_ : (if 100 < (a3.size : Int) then 100 else (a3.size : Int)) = ji12 := hji12
 by_cases c13 : 0 ≤ (ji12)
 rotate_left
 ·rw [if_neg c13] at H
  exact absurd H (by simp)
 rw [if_pos c13] at H
 have c13b0 := eq_true c13
 have c13b1 : decide (0 ≤ (ji12)) = true := decide_eq_true c13
 clear c13
 by_cases c14 : (ji12) ≤ (a3.size : Int)
 rotate_left
 ·rw [if_neg c14] at H
  exact absurd H (by simp)
 rw [if_pos c14] at H
 have c14b0 := eq_true c14
 have c14b1 : decide ((ji12) ≤ (a3.size : Int)) = true := decide_eq_true c14
 clear c14
 obtain ⟨sx15, hsx15⟩ : ∃ s_ : ByteArray, (a3.extract 0 ((ji12) : Int).toNat) = s_ := ⟨_, rfl⟩
 replace H : (u8_IdealNone.l0 k tz1 sx11 sx15 false 0 tz4 tz5 tz6 tz9 tz12) = some r := by first | (rw [hsx15] at H; exact H) | (simp only [hsx15] at H ⊢; exact H) | exact H
 have H' := am H
 clear H
 go_enter Try.func13, Try.ntmps13
 go_wp2_with (first | ((with_reducible refine gate_callee (f := 28) rfl ?_); refine goesL_ (some 27) rfl rfl Try.func28 (by kernel_rfl) rfl #[] rfl (by (try simp only [List.map_toArray, List.map_cons, List.map_nil]) <;> rfl) ?_; (with_reducible refine (u8_awake.calls k  tz1 _ A5.out).mono ?_); rintro e w16 ⟨rfl, hb⟩; refine ⟨_, rfl, ?_⟩; have n0_ := am (below_step (pb HB) hb); clear HB; have HB := n0_; clear n0_; (try clear hi)) | ((with_reducible refine gate_callee (f := 29) rfl ?_); refine goesL_ (some 29) rfl rfl Try.func29 (by kernel_rfl) rfl #[.slice A0 l0.length c0, .bool false] rfl (by (try simp only [List.map_toArray, List.map_cons, List.map_nil]) <;> rfl) ?_; (with_reducible refine (u8_Draws.calls k _ _ l0 false tz2 tz3 _ ?side1 ?side2 A6.out).mono ?_); (case side1 => repeat (first | exact (Kd.C_below HR0.out HB.out) | (with_reducible refine Kd.C_alloc ?_ _) | (with_reducible refine Kd.C_drewN ?_ _) | (with_reducible refine Kd.C_drew ?_))); (case side2 => exact HC0.out); rintro e w17 ⟨rfl, hb⟩; refine ⟨_, rfl, ?_⟩; have n0_ := am (below_step (pb HB) hb); clear HB; have HB := n0_; clear n0_; (try clear hi)) | ((with_reducible refine gate_callee (f := 33) rfl ?_); refine goesL_ (some 31) rfl rfl Try.func33 (by kernel_rfl) rfl #[.agg #[.string tz2, .int .i64 tz3], .slice A1 l1.length c1] rfl (by (try simp only [List.map_toArray, List.map_cons, List.map_nil]) <;> rfl) ?_; (with_reducible refine (u8_Ideal.calls k tz2 tz3 _ _ l1 tz4 tz5 tz6 tz9 tz12 _ ?side1 ?side2 A7.out).mono ?_); (case side1 => repeat (first | exact (Kd.C_below HR1.out HB.out) | (with_reducible refine Kd.C_alloc ?_ _) | (with_reducible refine Kd.C_drewN ?_ _) | (with_reducible refine Kd.C_drew ?_))); (case side2 => exact HC1.out); rintro e w18 ⟨vz7, vz10, rfl, ho0, ho1, hb⟩; refine ⟨_, rfl, ?_⟩; have n0_ := am (Kd.R_lower ho0 (below_size (pb HB))); have n1_ := am (Kd.R_lower ho1 (below_size (pb HB))); have n2_ := am (below_step (pb HB) hb); clear HB; have HOz8 := n0_; have HOz11 := n1_; have HB := n2_; clear n0_ n1_ n2_; (try clear ho1)) | ((with_reducible refine gate_dst (N := 10) rfl ?_); refine box_event ?hg (N := 10) ?hd (cs := #[.string (⟨#[]⟩ : ByteArray), .int .i64 0, .slice none 0 0, .slice none 0 0, .bool false]) (t := 50) ?hr ?_; (case hd => rfl); (case hg => rfl); (case hr => first | (go_simp; done) | (go_simp; rfl)); intro gbz13 hg w19 hbox hb; have n0_ := am (Kd.R_below (pr HOz8) hb); have n1_ := am (Kd.R_below (pr HOz11) hb); have n2_ := am (below_step (pb HB) hb); have n3_ := am (hbox); have n4_ := ge_ hg (pb HB); have n5_ := ge_ hg (pb HB); clear HOz8; clear HOz11; clear HB; have HOz8 := n0_; have HOz11 := n1_; have HB := n2_; have BKz13 := n3_; have GWz13 := n4_; have GEz13 := n5_; clear n0_ n1_ n2_ n3_ n4_ n5_; clear hb hbox hg; obtain ⟨hcz20_0, hcz20_1, hcz20_2, hcz20_3, hcz20_4⟩ := bc5 BKz13; obtain ⟨hfz20_0, hfz20_1, hfz20_2, hfz20_3, hfz20_4⟩ := bf5 BKz13; obtain ⟨Ao21, co21, eo21⟩ := Kd.R_slice HOz8.out; subst eo21; obtain ⟨Ao22, co22, eo22⟩ := Kd.R_slice HOz11.out; subst eo22))
 go_loopg [13, 14] k (fun kq v13 v14 w' => ∃ (x13_1 : Bool) (x14_1 : Int), v13 = .bool x13_1 ∧ v14 = .int .i64 x14_1 ∧ Aside0 (u8_IdealNone.l0 kq tz1 sx11 sx15 x13_1 x14_1 tz4 tz5 tz6 tz9 tz12 = some r) ∧ Aside0 (kq ≤ k) ∧ Aside0 (Kd.R k72 72 w' w.heap.size (fun _ => True) (.slice Ao21 tz6.length co21) tz6) ∧ Aside0 (Kd.R k74 74 w' w.heap.size (fun _ => True) (.slice Ao22 tz9.length co22) tz9) ∧ Aside0 (w'.heap[gbz13]? = some (.cells #[.string tz4, .int .i64 tz5, (.slice Ao21 tz6.length co21), (.slice Ao22 tz9.length co22), .bool tz12] 50 (0, 0))) ∧ Aside0 (Below w.heap.size w w'))
 case atStart => exact ⟨(false), (0), (by first | rfl | (simp; done) | (simp [*]; done)), (by first | rfl | (simp; done) | (simp [*]; done)), H', ⟨Nat.le_refl _⟩, ⟨by (with_reducible repeat first | apply ra | apply rn | apply rd); exact Kd.R_mono (rf5 (Kd.R_types HOz8.out BKz13.out (by decide)) (fun _ hk => hk.2)) (fun _ hk => trivial)⟩, ⟨by (with_reducible repeat first | apply ra | apply rn | apply rd); exact Kd.R_mono (rf5 (Kd.R_types HOz11.out BKz13.out (by decide)) (fun _ hk => hk.2)) (fun _ hk => trivial)⟩, ⟨by (with_reducible repeat (first | refine blk_drewN ?_ _ | refine bkD ?_ | refine bkA ?_ _)); apply bp5; (with_reducible repeat (first | refine blk_drewN ?_ _ | refine bkD ?_ | refine bkA ?_ _)); exact BKz13.out⟩, ⟨by repeat first | (with_reducible first | exact HB.out | apply ba | apply bn | apply bd | refine bs (by assumption) ?_) | exact HB.out⟩⟩
 clear H'
 try clear c1
 try clear c2
 try clear p2
 try clear c3
 try clear c9
 try clear c9b0
 try clear c9b1
 try clear c10
 try clear c10b0
 try clear c10b1
 try clear c13
 try clear c13b0
 try clear c13b1
 try clear c14
 try clear c14b0
 try clear c14b1
 try clear hcz20_0
 try clear hcz20_1
 try clear hcz20_2
 try clear hcz20_3
 try clear hcz20_4
 try clear hfz20_0
 try clear hfz20_1
 try clear hfz20_2
 try clear hfz20_3
 try clear hfz20_4
 obtain ⟨x13_1, x14_1, rfl, rfl, HA, HK1, HO_z14002, HO_z14003, BKz13, HB⟩ := hrel
 cases gk with
 | zero => exact absurd HA.out (by simp [u8_IdealNone.l0])
 | succ k1 => ?_
 have H := HA.out
 clear HA
 simp only [u8_IdealNone.l0] at H
 by_cases c23 : x14_1 < (tz9.length : Int)
 ·rw [if_pos c23] at H
  have c23b0 : decide (x14_1 < (tz9.length : Int)) = true := decide_eq_true c23
  clear c23
  by_cases c24 : x13_1 = true
  ·subst c24
   have H1 : (u8_IdealNone.l0 k1 tz1 sx11 sx15 true (wrap64 (x14_1 + 1)) tz4 tz5 tz6 tz9 tz12) = some r := by rw [if_pos rfl] at H; exact H
   clear H
   have H := H1
   clear H1
   have H' := am H
   clear H
   obtain ⟨hcz25_0, hcz25_1, hcz25_2, hcz25_3, hcz25_4⟩ := bc5 BKz13
   obtain ⟨hfz25_0, hfz25_1, hfz25_2, hfz25_3, hfz25_4⟩ := bf5 BKz13
   go_wp2
   go_roundg k1
   case measure => have := HK1.out; omega
   case rel => exact ⟨(true), (wrap64 (x14_1 + 1)), (by first | rfl | (simp; done) | (simp [*]; done)), (by first | rfl | (simp; done) | (simp [*]; done)), H', ⟨by have := HK1.out; omega⟩, ⟨by (with_reducible repeat first | apply ra | apply rn | apply rd); exact HO_z14002.out⟩, ⟨by (with_reducible repeat first | apply ra | apply rn | apply rd); exact HO_z14003.out⟩, ⟨by (with_reducible repeat (first | refine blk_drewN ?_ _ | refine bkD ?_ | refine bkA ?_ _)); exact BKz13.out⟩, ⟨by repeat first | (with_reducible first | exact HB.out | apply ba | apply bn | apply bd | refine bs (by assumption) ?_) | exact HB.out⟩⟩
  replace c24 := Bool.eq_false_iff.mpr c24
  subst c24
  have H1 : (if 0 ≤ x14_1 then (if ((rd_T74 tz9 x14_1).f0).toList = sx11.toList then (u8_IdealNone.l0 k1 tz1 sx11 sx15 (((rd_T74 tz9 x14_1).f2).toList == sx15.toList) (wrap64 (x14_1 + 1)) tz4 tz5 tz6 tz9 tz12) else (u8_IdealNone.l0 k1 tz1 sx11 sx15 false (wrap64 (x14_1 + 1)) tz4 tz5 tz6 tz9 tz12)) else (none)) = some r := by rw [if_neg (show ¬ (false = true) by decide)] at H; exact H
  clear H
  have H := H1
  clear H1
  by_cases c26 : 0 ≤ x14_1
  rotate_left
  ·rw [if_neg c26] at H
   exact absurd H (by simp)
  rw [if_pos c26] at H
  have c26b0 : decide (0 ≤ x14_1) = true := decide_eq_true c26
  clear c26
  by_cases c27 : ((rd_T74 tz9 x14_1).f0).toList = sx11.toList
  rotate_left
  ·rw [if_neg c27] at H
   have c27b0 : (((rd_T74 tz9 x14_1).f0).toList == sx11.toList) = false := beq_eq_false_iff_ne.mpr c27
   have c27b1 : (((rd_T74 tz9 x14_1).f0).toList != sx11.toList) = true := bne_iff_ne.mpr c27
   have H' := am H
   clear H
   obtain ⟨hcz29_0, hcz29_1, hcz29_2, hcz29_3, hcz29_4⟩ := bc5 BKz13
   obtain ⟨hfz29_0, hfz29_1, hfz29_2, hfz29_3, hfz29_4⟩ := bf5 BKz13
   have pz14 : 0 ≤ (x14_1 : Int) := of_decide_eq_true (by first | (with_reducible assumption) | assumption)
   have qz14 : x14_1 < (tz9.length : Int) := of_decide_eq_true (by first | (with_reducible assumption) | assumption)
   obtain ⟨adz14, ez14, hxz14_0, hxz14_1, hxz14_2⟩ := at_T74 (Kd.R_reads' HO_z14003.out).2.2 x14_1 pz14 qz14
   cases ez14
   replace pz14 := eq_true pz14
   replace qz14 := eq_true qz14
   go_wp2
   go_roundg k1
   case measure => have := HK1.out; omega
   case rel => exact ⟨(false), (wrap64 (x14_1 + 1)), (by first | rfl | (simp; done) | (simp [*]; done)), (by first | rfl | (simp; done) | (simp [*]; done)), H', ⟨by have := HK1.out; omega⟩, ⟨by (with_reducible repeat first | apply ra | apply rn | apply rd); exact HO_z14002.out⟩, ⟨by (with_reducible repeat first | apply ra | apply rn | apply rd); exact HO_z14003.out⟩, ⟨by (with_reducible repeat (first | refine blk_drewN ?_ _ | refine bkD ?_ | refine bkA ?_ _)); exact BKz13.out⟩, ⟨by repeat first | (with_reducible first | exact HB.out | apply ba | apply bn | apply bd | refine bs (by assumption) ?_) | exact HB.out⟩⟩
  rw [if_pos c27] at H
  have c27b0 : (((rd_T74 tz9 x14_1).f0).toList == sx11.toList) = true := beq_iff_eq.mpr c27
  have c27b1 : (((rd_T74 tz9 x14_1).f0).toList != sx11.toList) = false := bne_eq_false_iff_eq.mpr c27
  clear c27
  have H' := am H
  clear H
  obtain ⟨hcz28_0, hcz28_1, hcz28_2, hcz28_3, hcz28_4⟩ := bc5 BKz13
  obtain ⟨hfz28_0, hfz28_1, hfz28_2, hfz28_3, hfz28_4⟩ := bf5 BKz13
  have pz14 : 0 ≤ (x14_1 : Int) := of_decide_eq_true (by first | (with_reducible assumption) | assumption)
  have qz14 : x14_1 < (tz9.length : Int) := of_decide_eq_true (by first | (with_reducible assumption) | assumption)
  obtain ⟨adz14, ez14, hxz14_0, hxz14_1, hxz14_2⟩ := at_T74 (Kd.R_reads' HO_z14003.out).2.2 x14_1 pz14 qz14
  cases ez14
  replace pz14 := eq_true pz14
  replace qz14 := eq_true qz14
  have pz15 : 0 ≤ (x14_1 : Int) := of_decide_eq_true (by first | (with_reducible assumption) | assumption)
  have qz15 : x14_1 < (tz9.length : Int) := of_decide_eq_true (by first | (with_reducible assumption) | assumption)
  obtain ⟨adz15, ez15, hxz15_0, hxz15_1, hxz15_2⟩ := at_T74 (Kd.R_reads' HO_z14003.out).2.2 x14_1 pz15 qz15
  obtain rfl : adz14 = adz15 := (by injection ez15)
  replace pz15 := eq_true pz15
  replace qz15 := eq_true qz15
  go_wp2
  go_roundg k1
  case measure => have := HK1.out; omega
  case rel => exact ⟨((((rd_T74 tz9 x14_1).f2).toList == sx15.toList)), (wrap64 (x14_1 + 1)), (by first | rfl | (simp; done) | (simp only [← hsx15] <;> (first | rfl | simp)) | (simp [*]; done)), (by first | rfl | (simp; done) | (simp [*]; done)), H', ⟨by have := HK1.out; omega⟩, ⟨by (with_reducible repeat first | apply ra | apply rn | apply rd); exact HO_z14002.out⟩, ⟨by (with_reducible repeat first | apply ra | apply rn | apply rd); exact HO_z14003.out⟩, ⟨by (with_reducible repeat (first | refine blk_drewN ?_ _ | refine bkD ?_ | refine bkA ?_ _)); exact BKz13.out⟩, ⟨by repeat first | (with_reducible first | exact HB.out | apply ba | apply bn | apply bd | refine bs (by assumption) ?_) | exact HB.out⟩⟩
 rw [if_neg c23] at H
 have c23b0 : decide (x14_1 < (tz9.length : Int)) = false := decide_eq_false c23
 clear c23
 replace H := ob_ H
 obtain ⟨⟨tz16, tz17⟩, A300, H⟩ := H
 replace H : ((ideal_Label.f k1 tz4 (tz4.size : Int) tz6 tz9 tz12 (⟨#[110, 101, 118, 101, 114, 32, 97, 115, 107, 101, 100]⟩ : ByteArray)).bind fun btz19 => ((ideal_Seal.f k1 tz4 (tz4.size : Int) tz6 tz9 tz12 (⟨#[48, 49, 50, 51, 52, 53, 54, 55, 56, 57, 97, 98, 99, 100, 101, 102]⟩ : ByteArray) (⟨#[110, 101, 118, 101, 114, 32, 97, 115, 107, 101, 100, 44, 32, 97, 116, 32, 97, 110, 121, 32, 116, 105, 109, 101]⟩ : ByteArray)).bind fun btz31 => ((ideal_Seal.f k1 tz4 tz5 tz6 tz9 tz12 sx11 (⟨#[115, 104, 111, 114, 116]⟩ : ByteArray)).bind fun btz43 => (if tz1 = true then (if ((tz17 == 0) == x13_1) = true then (if x13_1 = true then (if btz19.2.2.2.2.2.2 = 12 then ((r8_Same.f k1 btz19.2.1 btz19.2.2.1 btz19.2.2.2.1 btz19.2.2.2.2.1 btz19.2.2.2.2.2.1 tz4 (tz4.size : Int) tz6 tz9 tz12).bind fun tz55 => (if tz55 = true then (if btz31.2.2.2.2.2.2 = 12 then ((r8_Same.f k1 btz31.2.1 btz31.2.2.1 btz31.2.2.2.1 btz31.2.2.2.2.1 btz31.2.2.2.2.2.1 tz4 (tz4.size : Int) tz6 tz9 tz12).bind fun tz56 => (if tz56 = true then (if btz43.2.2.2.2.2.2 = 1 then ((r8_Same.f k1 btz43.2.1 btz43.2.2.1 btz43.2.2.2.1 btz43.2.2.2.2.1 btz43.2.2.2.2.2.1 tz4 tz5 tz6 tz9 tz12).bind fun tz57 => (some tz57)) else (none)) else (none))) else (none)) else (none))) else (none)) else (if tz17 = 11 then (if btz19.2.2.2.2.2.2 = 12 then ((r8_Same.f k1 btz19.2.1 btz19.2.2.1 btz19.2.2.2.1 btz19.2.2.2.2.1 btz19.2.2.2.2.2.1 tz4 (tz4.size : Int) tz6 tz9 tz12).bind fun tz58 => (if tz58 = true then (if btz31.2.2.2.2.2.2 = 12 then ((r8_Same.f k1 btz31.2.1 btz31.2.2.1 btz31.2.2.2.1 btz31.2.2.2.2.1 btz31.2.2.2.2.2.1 tz4 (tz4.size : Int) tz6 tz9 tz12).bind fun tz59 => (if tz59 = true then (if btz43.2.2.2.2.2.2 = 1 then ((r8_Same.f k1 btz43.2.1 btz43.2.2.1 btz43.2.2.2.1 btz43.2.2.2.2.1 btz43.2.2.2.2.2.1 tz4 tz5 tz6 tz9 tz12).bind fun tz60 => (some tz60)) else (none)) else (none))) else (none)) else (none))) else (none)) else (none))) else (none)) else (none))))) = some r := H
 have A30 := Aside0.mk A300
 clear A300
 replace H := ob_ H
 obtain ⟨⟨tz19, tz20, tz21, tz22, tz25, tz28, tz29⟩, A310, H⟩ := H
 replace H : ((ideal_Seal.f k1 tz4 (tz4.size : Int) tz6 tz9 tz12 (⟨#[48, 49, 50, 51, 52, 53, 54, 55, 56, 57, 97, 98, 99, 100, 101, 102]⟩ : ByteArray) (⟨#[110, 101, 118, 101, 114, 32, 97, 115, 107, 101, 100, 44, 32, 97, 116, 32, 97, 110, 121, 32, 116, 105, 109, 101]⟩ : ByteArray)).bind fun btz31 => ((ideal_Seal.f k1 tz4 tz5 tz6 tz9 tz12 sx11 (⟨#[115, 104, 111, 114, 116]⟩ : ByteArray)).bind fun btz43 => (if tz1 = true then (if ((tz17 == 0) == x13_1) = true then (if x13_1 = true then (if tz29 = 12 then ((r8_Same.f k1 tz20 tz21 tz22 tz25 tz28 tz4 (tz4.size : Int) tz6 tz9 tz12).bind fun tz55 => (if tz55 = true then (if btz31.2.2.2.2.2.2 = 12 then ((r8_Same.f k1 btz31.2.1 btz31.2.2.1 btz31.2.2.2.1 btz31.2.2.2.2.1 btz31.2.2.2.2.2.1 tz4 (tz4.size : Int) tz6 tz9 tz12).bind fun tz56 => (if tz56 = true then (if btz43.2.2.2.2.2.2 = 1 then ((r8_Same.f k1 btz43.2.1 btz43.2.2.1 btz43.2.2.2.1 btz43.2.2.2.2.1 btz43.2.2.2.2.2.1 tz4 tz5 tz6 tz9 tz12).bind fun tz57 => (some tz57)) else (none)) else (none))) else (none)) else (none))) else (none)) else (if tz17 = 11 then (if tz29 = 12 then ((r8_Same.f k1 tz20 tz21 tz22 tz25 tz28 tz4 (tz4.size : Int) tz6 tz9 tz12).bind fun tz58 => (if tz58 = true then (if btz31.2.2.2.2.2.2 = 12 then ((r8_Same.f k1 btz31.2.1 btz31.2.2.1 btz31.2.2.2.1 btz31.2.2.2.2.1 btz31.2.2.2.2.2.1 tz4 (tz4.size : Int) tz6 tz9 tz12).bind fun tz59 => (if tz59 = true then (if btz43.2.2.2.2.2.2 = 1 then ((r8_Same.f k1 btz43.2.1 btz43.2.2.1 btz43.2.2.2.1 btz43.2.2.2.2.1 btz43.2.2.2.2.2.1 tz4 tz5 tz6 tz9 tz12).bind fun tz60 => (some tz60)) else (none)) else (none))) else (none)) else (none))) else (none)) else (none))) else (none)) else (none)))) = some r := H
 have A31 := Aside0.mk A310
 clear A310
 replace H := ob_ H
 obtain ⟨⟨tz31, tz32, tz33, tz34, tz37, tz40, tz41⟩, A320, H⟩ := H
 replace H : ((ideal_Seal.f k1 tz4 tz5 tz6 tz9 tz12 sx11 (⟨#[115, 104, 111, 114, 116]⟩ : ByteArray)).bind fun btz43 => (if tz1 = true then (if ((tz17 == 0) == x13_1) = true then (if x13_1 = true then (if tz29 = 12 then ((r8_Same.f k1 tz20 tz21 tz22 tz25 tz28 tz4 (tz4.size : Int) tz6 tz9 tz12).bind fun tz55 => (if tz55 = true then (if tz41 = 12 then ((r8_Same.f k1 tz32 tz33 tz34 tz37 tz40 tz4 (tz4.size : Int) tz6 tz9 tz12).bind fun tz56 => (if tz56 = true then (if btz43.2.2.2.2.2.2 = 1 then ((r8_Same.f k1 btz43.2.1 btz43.2.2.1 btz43.2.2.2.1 btz43.2.2.2.2.1 btz43.2.2.2.2.2.1 tz4 tz5 tz6 tz9 tz12).bind fun tz57 => (some tz57)) else (none)) else (none))) else (none)) else (none))) else (none)) else (if tz17 = 11 then (if tz29 = 12 then ((r8_Same.f k1 tz20 tz21 tz22 tz25 tz28 tz4 (tz4.size : Int) tz6 tz9 tz12).bind fun tz58 => (if tz58 = true then (if tz41 = 12 then ((r8_Same.f k1 tz32 tz33 tz34 tz37 tz40 tz4 (tz4.size : Int) tz6 tz9 tz12).bind fun tz59 => (if tz59 = true then (if btz43.2.2.2.2.2.2 = 1 then ((r8_Same.f k1 btz43.2.1 btz43.2.2.1 btz43.2.2.2.1 btz43.2.2.2.2.1 btz43.2.2.2.2.2.1 tz4 tz5 tz6 tz9 tz12).bind fun tz60 => (some tz60)) else (none)) else (none))) else (none)) else (none))) else (none)) else (none))) else (none)) else (none))) = some r := H
 have A32 := Aside0.mk A320
 clear A320
 replace H := ob_ H
 obtain ⟨⟨tz43, tz44, tz45, tz46, tz49, tz52, tz53⟩, A330, H⟩ := H
 replace H : (if tz1 = true then (if ((tz17 == 0) == x13_1) = true then (if x13_1 = true then (if tz29 = 12 then ((r8_Same.f k1 tz20 tz21 tz22 tz25 tz28 tz4 (tz4.size : Int) tz6 tz9 tz12).bind fun tz55 => (if tz55 = true then (if tz41 = 12 then ((r8_Same.f k1 tz32 tz33 tz34 tz37 tz40 tz4 (tz4.size : Int) tz6 tz9 tz12).bind fun tz56 => (if tz56 = true then (if tz53 = 1 then ((r8_Same.f k1 tz44 tz45 tz46 tz49 tz52 tz4 tz5 tz6 tz9 tz12).bind fun tz57 => (some tz57)) else (none)) else (none))) else (none)) else (none))) else (none)) else (if tz17 = 11 then (if tz29 = 12 then ((r8_Same.f k1 tz20 tz21 tz22 tz25 tz28 tz4 (tz4.size : Int) tz6 tz9 tz12).bind fun tz58 => (if tz58 = true then (if tz41 = 12 then ((r8_Same.f k1 tz32 tz33 tz34 tz37 tz40 tz4 (tz4.size : Int) tz6 tz9 tz12).bind fun tz59 => (if tz59 = true then (if tz53 = 1 then ((r8_Same.f k1 tz44 tz45 tz46 tz49 tz52 tz4 tz5 tz6 tz9 tz12).bind fun tz60 => (some tz60)) else (none)) else (none))) else (none)) else (none))) else (none)) else (none))) else (none)) else (none)) = some r := H
 have A33 := Aside0.mk A330
 clear A330
 by_cases c34 : tz1 = true
 rotate_left
 ·replace c34 := Bool.eq_false_iff.mpr c34
  subst c34
  have H1 : (none) = some r := by rw [if_neg (show ¬ (false = true) by decide)] at H; exact H
  clear H
  have H := H1
  clear H1
  exact absurd H (by simp)
 subst c34
 have H1 : (if ((tz17 == 0) == x13_1) = true then (if x13_1 = true then (if tz29 = 12 then ((r8_Same.f k1 tz20 tz21 tz22 tz25 tz28 tz4 (tz4.size : Int) tz6 tz9 tz12).bind fun tz55 => (if tz55 = true then (if tz41 = 12 then ((r8_Same.f k1 tz32 tz33 tz34 tz37 tz40 tz4 (tz4.size : Int) tz6 tz9 tz12).bind fun tz56 => (if tz56 = true then (if tz53 = 1 then ((r8_Same.f k1 tz44 tz45 tz46 tz49 tz52 tz4 tz5 tz6 tz9 tz12).bind fun tz57 => (some tz57)) else (none)) else (none))) else (none)) else (none))) else (none)) else (if tz17 = 11 then (if tz29 = 12 then ((r8_Same.f k1 tz20 tz21 tz22 tz25 tz28 tz4 (tz4.size : Int) tz6 tz9 tz12).bind fun tz58 => (if tz58 = true then (if tz41 = 12 then ((r8_Same.f k1 tz32 tz33 tz34 tz37 tz40 tz4 (tz4.size : Int) tz6 tz9 tz12).bind fun tz59 => (if tz59 = true then (if tz53 = 1 then ((r8_Same.f k1 tz44 tz45 tz46 tz49 tz52 tz4 tz5 tz6 tz9 tz12).bind fun tz60 => (some tz60)) else (none)) else (none))) else (none)) else (none))) else (none)) else (none))) else (none)) = some r := by rw [if_pos rfl] at H; exact H
 clear H
 have H := H1
 clear H1
 by_cases c35 : ((tz17 == 0) == x13_1) = true
 rotate_left
 ·rw [if_neg c35] at H
  exact absurd H (by simp)
 rw [if_pos c35] at H
 have c35b0 : ((tz17 == 0) == x13_1) = true := c35
 (try (have c35b1 : decide ((tz17 == 0) = x13_1) = true := by simpa using c35))
 (try (have c35b2 : ((tz17 == 0) == x13_1) = true := by simpa using c35))
 clear c35
 by_cases c36 : x13_1 = true
 ·subst c36
  have H1 : (if tz29 = 12 then ((r8_Same.f k1 tz20 tz21 tz22 tz25 tz28 tz4 (tz4.size : Int) tz6 tz9 tz12).bind fun tz55 => (if tz55 = true then (if tz41 = 12 then ((r8_Same.f k1 tz32 tz33 tz34 tz37 tz40 tz4 (tz4.size : Int) tz6 tz9 tz12).bind fun tz56 => (if tz56 = true then (if tz53 = 1 then ((r8_Same.f k1 tz44 tz45 tz46 tz49 tz52 tz4 tz5 tz6 tz9 tz12).bind fun tz57 => (some tz57)) else (none)) else (none))) else (none)) else (none))) else (none)) = some r := by rw [if_pos rfl] at H; exact H
  clear H
  have H := H1
  clear H1
  by_cases c37 : tz29 = 12
  rotate_left
  ·rw [if_neg c37] at H
   exact absurd H (by simp)
  rw [if_pos c37] at H
  have c37b0 : (tz29 == 12) = true := beq_iff_eq.mpr c37
  have c37b1 : (tz29 != 12) = false := bne_eq_false_iff_eq.mpr c37
  clear c37
  replace H := ob_ H
  obtain ⟨tz55, A380, H⟩ := H
  replace H : (if tz55 = true then (if tz41 = 12 then ((r8_Same.f k1 tz32 tz33 tz34 tz37 tz40 tz4 (tz4.size : Int) tz6 tz9 tz12).bind fun tz56 => (if tz56 = true then (if tz53 = 1 then ((r8_Same.f k1 tz44 tz45 tz46 tz49 tz52 tz4 tz5 tz6 tz9 tz12).bind fun tz57 => (some tz57)) else (none)) else (none))) else (none)) else (none)) = some r := H
  have A38 := Aside0.mk A380
  clear A380
  by_cases c39 : tz55 = true
  rotate_left
  ·replace c39 := Bool.eq_false_iff.mpr c39
   subst c39
   have H1 : (none) = some r := by rw [if_neg (show ¬ (false = true) by decide)] at H; exact H
   clear H
   have H := H1
   clear H1
   exact absurd H (by simp)
  subst c39
  have H1 : (if tz41 = 12 then ((r8_Same.f k1 tz32 tz33 tz34 tz37 tz40 tz4 (tz4.size : Int) tz6 tz9 tz12).bind fun tz56 => (if tz56 = true then (if tz53 = 1 then ((r8_Same.f k1 tz44 tz45 tz46 tz49 tz52 tz4 tz5 tz6 tz9 tz12).bind fun tz57 => (some tz57)) else (none)) else (none))) else (none)) = some r := by rw [if_pos rfl] at H; exact H
  clear H
  have H := H1
  clear H1
  by_cases c40 : tz41 = 12
  rotate_left
  ·rw [if_neg c40] at H
   exact absurd H (by simp)
  rw [if_pos c40] at H
  have c40b0 : (tz41 == 12) = true := beq_iff_eq.mpr c40
  have c40b1 : (tz41 != 12) = false := bne_eq_false_iff_eq.mpr c40
  clear c40
  replace H := ob_ H
  obtain ⟨tz56, A410, H⟩ := H
  replace H : (if tz56 = true then (if tz53 = 1 then ((r8_Same.f k1 tz44 tz45 tz46 tz49 tz52 tz4 tz5 tz6 tz9 tz12).bind fun tz57 => (some tz57)) else (none)) else (none)) = some r := H
  have A41 := Aside0.mk A410
  clear A410
  by_cases c42 : tz56 = true
  rotate_left
  ·replace c42 := Bool.eq_false_iff.mpr c42
   subst c42
   have H1 : (none) = some r := by rw [if_neg (show ¬ (false = true) by decide)] at H; exact H
   clear H
   have H := H1
   clear H1
   exact absurd H (by simp)
  subst c42
  have H1 : (if tz53 = 1 then ((r8_Same.f k1 tz44 tz45 tz46 tz49 tz52 tz4 tz5 tz6 tz9 tz12).bind fun tz57 => (some tz57)) else (none)) = some r := by rw [if_pos rfl] at H; exact H
  clear H
  have H := H1
  clear H1
  by_cases c43 : tz53 = 1
  rotate_left
  ·rw [if_neg c43] at H
   exact absurd H (by simp)
  rw [if_pos c43] at H
  have c43b0 : (tz53 == 1) = true := beq_iff_eq.mpr c43
  have c43b1 : (tz53 != 1) = false := bne_eq_false_iff_eq.mpr c43
  clear c43
  replace H := ob_ H
  obtain ⟨tz57, A440, H⟩ := H
  replace H : (some tz57) = some r := H
  have A44 := Aside0.mk A440
  clear A440
  obtain rfl := Option.some.inj H
  obtain ⟨hcz45_0, hcz45_1, hcz45_2, hcz45_3, hcz45_4⟩ := bc5 BKz13
  obtain ⟨hfz45_0, hfz45_1, hfz45_2, hfz45_3, hfz45_4⟩ := bf5 BKz13
  go_wp2_with (first | ((with_reducible refine gate_callee (f := 43) rfl ?_); refine goesL_ (some 74) rfl rfl Try.func43 (by kernel_rfl) rfl #[.agg #[.string tz4, .int .i64 tz5, .slice Ao21 tz6.length co21, .slice Ao22 tz9.length co22, .bool tz12], .string sx11, .string sx15] rfl (by (try simp only [List.map_toArray, List.map_cons, List.map_nil]) <;> rfl) ?_; (with_reducible refine (ideal_Open.calls tz4 tz5 _ _ tz6 _ _ tz9 tz12 sx11 sx15 tz16 tz17 _ ?side1 ?side2 ?side3 ?side4 A30.out).mono ?_); (case side1 => repeat (first | exact (Kd.R_reads' HO_z14002.out).2.2 | (with_reducible refine Kd.C_alloc ?_ _) | (with_reducible refine Kd.C_drewN ?_ _) | (with_reducible refine Kd.C_drew ?_))); (case side2 => exact (Kd.R_reads' HO_z14002.out).2.1); (case side3 => repeat (first | exact (Kd.R_reads' HO_z14003.out).2.2 | (with_reducible refine Kd.C_alloc ?_ _) | (with_reducible refine Kd.C_drewN ?_ _) | (with_reducible refine Kd.C_drew ?_))); (case side4 => exact (Kd.R_reads' HO_z14003.out).2.1); rintro e w46 ⟨rfl, hb⟩; refine ⟨_, rfl, ?_⟩; have n0_ := am (Kd.R_below (pr HO_z14002) hb); have n1_ := am (Kd.R_below (pr HO_z14003) hb); have n2_ := am (bkB (pk BKz13) hb); have n3_ := am (below_step (by repeat first | (with_reducible first | exact HB.out | apply ba | apply bn | apply bd | refine bs (by assumption) ?_) | exact HB.out) hb); clear HO_z14002; clear HO_z14003; clear BKz13; clear HB; have HO_z14002 := n0_; have HO_z14003 := n1_; have BKz13 := n2_; have HB := n3_; clear n0_ n1_ n2_ n3_; obtain ⟨hcz47_0, hcz47_1, hcz47_2, hcz47_3, hcz47_4⟩ := bc5 BKz13; obtain ⟨hfz47_0, hfz47_1, hfz47_2, hfz47_3, hfz47_4⟩ := bf5 BKz13) | ((with_reducible refine gate_dst (N := 17) rfl ?_); refine box_event ?hg (N := 17) ?hd (cs := #[.string (⟨#[]⟩ : ByteArray), .int .i64 0, .slice none 0 0, .slice none 0 0, .bool false]) (t := 50) ?hr ?_; (case hd => rfl); (case hg => rfl); (case hr => first | (go_simp; done) | (go_simp; rfl)); intro gbz18 hg w48 hbox hb; have n0_ := am (Kd.R_below (pr HO_z14002) hb); have n1_ := am (Kd.R_below (pr HO_z14003) hb); have n2_ := am (bkB (pk BKz13) hb); have n3_ := am (below_step (by repeat first | (with_reducible first | exact HB.out | apply ba | apply bn | apply bd | refine bs (by assumption) ?_) | exact HB.out) hb); have n4_ := am (hbox); have n5_ := ge_ hg (by repeat first | (with_reducible first | exact HB.out | apply ba | apply bn | apply bd | refine bs (by assumption) ?_) | exact HB.out); have n6_ := ge_ hg (by repeat first | (with_reducible first | exact HB.out | apply ba | apply bn | apply bd | refine bs (by assumption) ?_) | exact HB.out); have n7_ := nl_ hg BKz13; have n8_ := ng_ hg BKz13; clear HO_z14002; clear HO_z14003; clear BKz13; clear HB; have HO_z14002 := n0_; have HO_z14003 := n1_; have BKz13 := n2_; have HB := n3_; have BKz18 := n4_; have GWz18 := n5_; have GEz18 := n6_; have NBz13_z18 := n7_; have NBz18_z13 := n8_; clear n0_ n1_ n2_ n3_ n4_ n5_ n6_ n7_ n8_; clear hb hbox hg; have hnb49 := NBz18_z13.out; have hnc49 := NBz13_z18.out; obtain ⟨hcz50_0, hcz50_1, hcz50_2, hcz50_3, hcz50_4⟩ := bc5 BKz18; obtain ⟨hfz50_0, hfz50_1, hfz50_2, hfz50_3, hfz50_4⟩ := bf5 BKz18; obtain ⟨hcz51_0, hcz51_1, hcz51_2, hcz51_3, hcz51_4⟩ := bc5 BKz13; obtain ⟨hfz51_0, hfz51_1, hfz51_2, hfz51_3, hfz51_4⟩ := bf5 BKz13) | ((fail_if_success (have := mk_)); (with_reducible refine gate_dst (N := 85) rfl ?_); have mk_ : True := trivial; have x13_ : ((((((w48.setCell ⟨gbz18, 0, none⟩ (.string tz4)).setCell ⟨gbz18, 1, none⟩ (.int .i64 tz5)).setCell ⟨gbz18, 2, none⟩ (.slice Ao21 tz6.length co21)).setCell ⟨gbz18, 3, none⟩ (.slice Ao22 tz9.length co22)).setCell ⟨gbz18, 4, none⟩ (.bool tz12)).setCell ⟨gbz18, 1, none⟩ (.int .i64 (tz4.size : Int))).heap[gbz13]? = some (.cells #[.string tz4, .int .i64 tz5, .slice Ao21 tz6.length co21, .slice Ao22 tz9.length co22, .bool tz12] 50 (0, 0)) := blk_far (br5 (pk BKz13) NBz13_z18) NBz13_z18.out _; have x18_ : ((((((w48.setCell ⟨gbz18, 0, none⟩ (.string tz4)).setCell ⟨gbz18, 1, none⟩ (.int .i64 tz5)).setCell ⟨gbz18, 2, none⟩ (.slice Ao21 tz6.length co21)).setCell ⟨gbz18, 3, none⟩ (.slice Ao22 tz9.length co22)).setCell ⟨gbz18, 4, none⟩ (.bool tz12)).setCell ⟨gbz18, 1, none⟩ (.int .i64 (tz4.size : Int))).heap[gbz18]? = some (.cells #[.string tz4, .int .i64 (tz4.size : Int), .slice Ao21 tz6.length co21, .slice Ao22 tz9.length co22, .bool tz12] 50 (0, 0)) := blk_put (cs := #[.string tz4, .int .i64 tz5, .slice Ao21 tz6.length co21, .slice Ao22 tz9.length co22, .bool tz12]) (bp5 (pk BKz18)) 1 _ rfl; have xh0_ := am (Kd.R_mono (Kd.R_far (p := ⟨gbz18, 1, none⟩) (rf5 (v0 := (.string tz4)) (v1 := (.int .i64 tz5)) (v2 := (.slice Ao21 tz6.length co21)) (v3 := (.slice Ao22 tz9.length co22)) (v4 := (.bool tz12)) (Kd.R_types HO_z14002.out BKz18.out (by decide)) (fun _ hk => hk.2)) (fun _ hk => hk.2) (.int .i64 (tz4.size : Int))) (fun _ h_ => h_.1)); have xh1_ := am (Kd.R_mono (Kd.R_far (p := ⟨gbz18, 1, none⟩) (rf5 (v0 := (.string tz4)) (v1 := (.int .i64 tz5)) (v2 := (.slice Ao21 tz6.length co21)) (v3 := (.slice Ao22 tz9.length co22)) (v4 := (.bool tz12)) (Kd.R_types HO_z14003.out BKz18.out (by decide)) (fun _ hk => hk.2)) (fun _ hk => hk.2) (.int .i64 (tz4.size : Int))) (fun _ h_ => h_.1)); have xb_ : Below w.heap.size w ((((((w48.setCell ⟨gbz18, 0, none⟩ (.string tz4)).setCell ⟨gbz18, 1, none⟩ (.int .i64 tz5)).setCell ⟨gbz18, 2, none⟩ (.slice Ao21 tz6.length co21)).setCell ⟨gbz18, 3, none⟩ (.slice Ao22 tz9.length co22)).setCell ⟨gbz18, 4, none⟩ (.bool tz12)).setCell ⟨gbz18, 1, none⟩ (.int .i64 (tz4.size : Int))) := (by repeat (first | (with_reducible first | exact HB.out | refine below_set ?_ GEz18.out) | exact HB.out)); generalize ((((((w48.setCell ⟨gbz18, 0, none⟩ (.string tz4)).setCell ⟨gbz18, 1, none⟩ (.int .i64 tz5)).setCell ⟨gbz18, 2, none⟩ (.slice Ao21 tz6.length co21)).setCell ⟨gbz18, 3, none⟩ (.slice Ao22 tz9.length co22)).setCell ⟨gbz18, 4, none⟩ (.bool tz12)).setCell ⟨gbz18, 1, none⟩ (.int .i64 (tz4.size : Int))) = w48s at x13_ x18_ xh0_ xh1_ xb_ ⊢; clear BKz13 BKz18 HO_z14002 HO_z14003 HB; have BKz13 := am x13_; have BKz18 := am x18_; have HB := am xb_; have HO_z14002 := xh0_; have HO_z14003 := xh1_; clear x13_ x18_ xb_ xh0_ xh1_; obtain ⟨hy0_, hy1_, hy2_, hy3_, hy4_⟩ := bc5 BKz18) | ((with_reducible refine gate_callee (f := 35) rfl ?_); refine goesL_ (some 86) rfl rfl Try.func35 (by kernel_rfl) rfl #[.agg #[.string tz4, .int .i64 (tz4.size : Int), .slice Ao21 tz6.length co21, .slice Ao22 tz9.length co22, .bool tz12], .string (⟨#[110, 101, 118, 101, 114, 32, 97, 115, 107, 101, 100]⟩ : ByteArray)] rfl (by (try simp only [List.map_toArray, List.map_cons, List.map_nil]) <;> rfl) ?_; (with_reducible refine (ideal_Label.calls k1 tz4 (tz4.size : Int) _ _ tz6 _ _ tz9 tz12 (⟨#[110, 101, 118, 101, 114, 32, 97, 115, 107, 101, 100]⟩ : ByteArray) tz19 tz20 tz21 tz22 tz25 tz28 tz29 _ ?side1 ?side2 ?side3 ?side4 A31.out).mono ?_); (case side1 => refine (Kd.R_reads' (e := 72) (base := w.heap.size) (ok := fun k_ => True) (n := tz6.length) (c := co21) ?_).2.2; exact (by (with_reducible repeat first | apply ra | apply rn | apply rd); exact (HO_z14002.out))); (case side2 => exact (Kd.R_reads' HO_z14002.out).2.1); (case side3 => refine (Kd.R_reads' (e := 74) (base := w.heap.size) (ok := fun k_ => True) (n := tz9.length) (c := co22) ?_).2.2; exact (by (with_reducible repeat first | apply ra | apply rn | apply rd); exact (HO_z14003.out))); (case side4 => exact (Kd.R_reads' HO_z14003.out).2.1); rintro e w52 ⟨vz23, vz26, rfl, ho0, ho1, hb⟩; refine ⟨_, rfl, ?_⟩; have n0_ := am (Kd.R_elder' (by (with_reducible repeat first | apply ra | apply rn | apply rd); exact (HO_z14002.out)) (Kd.R_base ho0) hb); have n1_ := am (Kd.R_elder' (by (with_reducible repeat first | apply ra | apply rn | apply rd); exact (HO_z14003.out)) (Kd.R_base ho1) hb); have n2_ := am (Kd.R_lower (Kd.R_new' ho0 (Kd.R_lt (by (with_reducible repeat first | apply ra | apply rn | apply rd); exact (HO_z14002.out)))) (below_size (by repeat first | (with_reducible first | exact HB.out | apply ba | apply bn | apply bd | refine bs (by assumption) ?_) | exact HB.out))); have n3_ := am (Kd.R_lower (Kd.R_new' ho1 (Kd.R_lt (by (with_reducible repeat first | apply ra | apply rn | apply rd); exact (HO_z14003.out)))) (below_size (by repeat first | (with_reducible first | exact HB.out | apply ba | apply bn | apply bd | refine bs (by assumption) ?_) | exact HB.out))); have n4_ := am (bkB (pk BKz13) hb); have n5_ := am (bkB (pk BKz18) hb); have n6_ := am (below_step (by repeat first | (with_reducible first | exact HB.out | apply ba | apply bn | apply bd | refine bs (by assumption) ?_) | exact HB.out) hb); clear HO_z14002; clear HO_z14003; clear BKz13; clear BKz18; clear HB; have HO_z14002 := n0_; have HO_z14003 := n1_; have HOz24 := n2_; have HOz27 := n3_; have BKz13 := n4_; have BKz18 := n5_; have HB := n6_; clear n0_ n1_ n2_ n3_ n4_ n5_ n6_; (try clear ho1)) | ((with_reducible refine gate_dst (N := 19) rfl ?_); refine box_event ?hg (N := 19) ?hd (cs := #[.string (⟨#[]⟩ : ByteArray), .int .i64 0, .slice none 0 0, .slice none 0 0, .bool false]) (t := 50) ?hr ?_; (case hd => rfl); (case hg => rfl); (case hr => first | (go_simp; done) | (go_simp; rfl)); intro gbz30 hg w53 hbox hb; have n0_ := am (Kd.R_below (pr HO_z14002) hb); have n1_ := am (Kd.R_below (pr HO_z14003) hb); have n2_ := am (Kd.R_below (pr HOz24) hb); have n3_ := am (Kd.R_below (pr HOz27) hb); have n4_ := am (bkB (pk BKz13) hb); have n5_ := am (bkB (pk BKz18) hb); have n6_ := am (below_step (by repeat first | (with_reducible first | exact HB.out | apply ba | apply bn | apply bd | refine bs (by assumption) ?_) | exact HB.out) hb); have n7_ := am (hbox); have n8_ := ge_ hg (by repeat first | (with_reducible first | exact HB.out | apply ba | apply bn | apply bd | refine bs (by assumption) ?_) | exact HB.out); have n9_ := ge_ hg (by repeat first | (with_reducible first | exact HB.out | apply ba | apply bn | apply bd | refine bs (by assumption) ?_) | exact HB.out); have n10_ := nl_ hg BKz13; have n11_ := ng_ hg BKz13; have n12_ := nl_ hg BKz18; have n13_ := ng_ hg BKz18; clear HO_z14002; clear HO_z14003; clear HOz24; clear HOz27; clear BKz13; clear BKz18; clear HB; have HO_z14002 := n0_; have HO_z14003 := n1_; have HOz24 := n2_; have HOz27 := n3_; have BKz13 := n4_; have BKz18 := n5_; have HB := n6_; have BKz30 := n7_; have GWz30 := n8_; have GEz30 := n9_; have NBz13_z30 := n10_; have NBz30_z13 := n11_; have NBz18_z30 := n12_; have NBz30_z18 := n13_; clear n0_ n1_ n2_ n3_ n4_ n5_ n6_ n7_ n8_ n9_ n10_ n11_ n12_ n13_; clear hb hbox hg; have hnb54 := NBz30_z13.out; have hnc54 := NBz13_z30.out; have hnb55 := NBz30_z18.out; have hnc55 := NBz18_z30.out; obtain ⟨hcz56_0, hcz56_1, hcz56_2, hcz56_3, hcz56_4⟩ := bc5 BKz30; obtain ⟨hfz56_0, hfz56_1, hfz56_2, hfz56_3, hfz56_4⟩ := bf5 BKz30; obtain ⟨Ao57, co57, eo57⟩ := Kd.R_slice HOz24.out; subst eo57; obtain ⟨Ao58, co58, eo58⟩ := Kd.R_slice HOz27.out; subst eo58; obtain ⟨hcz59_0, hcz59_1, hcz59_2, hcz59_3, hcz59_4⟩ := bc5 BKz18; obtain ⟨hfz59_0, hfz59_1, hfz59_2, hfz59_3, hfz59_4⟩ := bf5 BKz18) | ((with_reducible refine gate_callee (f := 41) rfl ?_); refine goesL_ (some 92) rfl rfl Try.func41 (by kernel_rfl) rfl #[.agg #[.string tz4, .int .i64 (tz4.size : Int), .slice Ao21 tz6.length co21, .slice Ao22 tz9.length co22, .bool tz12], .string (⟨#[48, 49, 50, 51, 52, 53, 54, 55, 56, 57, 97, 98, 99, 100, 101, 102]⟩ : ByteArray), .string (⟨#[110, 101, 118, 101, 114, 32, 97, 115, 107, 101, 100, 44, 32, 97, 116, 32, 97, 110, 121, 32, 116, 105, 109, 101]⟩ : ByteArray)] rfl (by (try simp only [List.map_toArray, List.map_cons, List.map_nil]) <;> rfl) ?_; (with_reducible refine (ideal_Seal.calls k1 tz4 (tz4.size : Int) _ _ tz6 _ _ tz9 tz12 (⟨#[48, 49, 50, 51, 52, 53, 54, 55, 56, 57, 97, 98, 99, 100, 101, 102]⟩ : ByteArray) (⟨#[110, 101, 118, 101, 114, 32, 97, 115, 107, 101, 100, 44, 32, 97, 116, 32, 97, 110, 121, 32, 116, 105, 109, 101]⟩ : ByteArray) tz31 tz32 tz33 tz34 tz37 tz40 tz41 _ ?side1 ?side2 ?side3 ?side4 A32.out).mono ?_); (case side1 => refine (Kd.R_reads' (e := 72) (base := w.heap.size) (ok := fun k_ => (True ∧ some k_ ≠ (.slice Ao57 tz22.length co57 : Value).ownBlock)) (n := tz6.length) (c := co21) ?_).2.2; exact (by (with_reducible repeat first | apply ra | apply rn | apply rd); exact (rs5 HO_z14002 BKz30 (by decide)))); (case side2 => exact (Kd.R_reads' HO_z14002.out).2.1); (case side3 => refine (Kd.R_reads' (e := 74) (base := w.heap.size) (ok := fun k_ => (True ∧ some k_ ≠ (.slice Ao58 tz25.length co58 : Value).ownBlock)) (n := tz9.length) (c := co22) ?_).2.2; exact (by (with_reducible repeat first | apply ra | apply rn | apply rd); exact (rs5 HO_z14003 BKz30 (by decide)))); (case side4 => exact (Kd.R_reads' HO_z14003.out).2.1); rintro e w60 ⟨vz35, vz38, rfl, ho0, ho1, hb⟩; refine ⟨_, rfl, ?_⟩; have n0_ := am (Kd.R_elder' (by (with_reducible repeat first | apply ra | apply rn | apply rd); exact (rs5 HO_z14002 BKz30 (by decide))) (Kd.R_base ho0) hb); have n1_ := am (Kd.R_elder' (by (with_reducible repeat first | apply ra | apply rn | apply rd); exact (rs5 HO_z14003 BKz30 (by decide))) (Kd.R_base ho1) hb); have n2_ := am (Kd.R_elder' (by (with_reducible repeat first | apply ra | apply rn | apply rd); exact (rs5 HOz24 BKz30 (by decide))) (Kd.R_base ho0) hb); have n3_ := am (Kd.R_elder' (by (with_reducible repeat first | apply ra | apply rn | apply rd); exact (rs5 HOz27 BKz30 (by decide))) (Kd.R_base ho1) hb); have n4_ := am (Kd.R_lower (Kd.R_new' (Kd.R_new' ho0 (Kd.R_lt (by (with_reducible repeat first | apply ra | apply rn | apply rd); exact (rs5 HO_z14002 BKz30 (by decide))))) (Kd.R_lt (by (with_reducible repeat first | apply ra | apply rn | apply rd); exact (rs5 HOz24 BKz30 (by decide))))) (below_size (by repeat first | (with_reducible first | exact HB.out | apply ba | apply bn | apply bd | refine bs (by assumption) ?_) | exact HB.out))); have n5_ := am (Kd.R_lower (Kd.R_new' (Kd.R_new' ho1 (Kd.R_lt (by (with_reducible repeat first | apply ra | apply rn | apply rd); exact (rs5 HO_z14003 BKz30 (by decide))))) (Kd.R_lt (by (with_reducible repeat first | apply ra | apply rn | apply rd); exact (rs5 HOz27 BKz30 (by decide))))) (below_size (by repeat first | (with_reducible first | exact HB.out | apply ba | apply bn | apply bd | refine bs (by assumption) ?_) | exact HB.out))); have n6_ := am (bkB (g := gbz13) (o := .cells #[.string tz4, .int .i64 tz5, .slice Ao21 tz6.length co21, .slice Ao22 tz9.length co22, .bool tz12] 50 (0, 0)) (by (with_reducible repeat (first | refine blk_drewN ?_ _ | refine bkD ?_ | refine bkA ?_ _)); refine br5 ?_ NBz13_z30; exact pk BKz13) hb); have n7_ := am (bkB (g := gbz18) (o := .cells #[.string tz4, .int .i64 (tz4.size : Int), .slice Ao21 tz6.length co21, .slice Ao22 tz9.length co22, .bool tz12] 50 (0, 0)) (by (with_reducible repeat (first | refine blk_drewN ?_ _ | refine bkD ?_ | refine bkA ?_ _)); refine br5 ?_ NBz18_z30; exact pk BKz18) hb); have n8_ := am (bkB (g := gbz30) (o := .cells #[.string tz20, .int .i64 tz21, .slice Ao57 tz22.length co57, .slice Ao58 tz25.length co58, .bool tz28] 50 (0, 0)) (by (with_reducible repeat (first | refine blk_drewN ?_ _ | refine bkD ?_ | refine bkA ?_ _)); apply bp5; exact pk BKz30) hb); have n9_ := am (below_step (by repeat first | (with_reducible first | exact HB.out | apply ba | apply bn | apply bd | refine bs (by assumption) ?_) | exact HB.out) hb); clear HO_z14002; clear HO_z14003; clear HOz24; clear HOz27; clear BKz13; clear BKz18; clear BKz30; clear HB; have HO_z14002 := n0_; have HO_z14003 := n1_; have HOz24 := n2_; have HOz27 := n3_; have HOz36 := n4_; have HOz39 := n5_; have BKz13 := n6_; have BKz18 := n7_; have BKz30 := n8_; have HB := n9_; clear n0_ n1_ n2_ n3_ n4_ n5_ n6_ n7_ n8_ n9_; (try clear ho1)) | ((with_reducible refine gate_dst (N := 22) rfl ?_); refine box_event ?hg (N := 22) ?hd (cs := #[.string (⟨#[]⟩ : ByteArray), .int .i64 0, .slice none 0 0, .slice none 0 0, .bool false]) (t := 50) ?hr ?_; (case hd => rfl); (case hg => rfl); (case hr => first | (go_simp; done) | (go_simp; rfl)); intro gbz42 hg w61 hbox hb; have n0_ := am (Kd.R_below (pr HO_z14002) hb); have n1_ := am (Kd.R_below (pr HO_z14003) hb); have n2_ := am (Kd.R_below (pr HOz24) hb); have n3_ := am (Kd.R_below (pr HOz27) hb); have n4_ := am (Kd.R_below (pr HOz36) hb); have n5_ := am (Kd.R_below (pr HOz39) hb); have n6_ := am (bkB (pk BKz13) hb); have n7_ := am (bkB (pk BKz18) hb); have n8_ := am (bkB (pk BKz30) hb); have n9_ := am (below_step (by repeat first | (with_reducible first | exact HB.out | apply ba | apply bn | apply bd | refine bs (by assumption) ?_) | exact HB.out) hb); have n10_ := am (hbox); have n11_ := ge_ hg (by repeat first | (with_reducible first | exact HB.out | apply ba | apply bn | apply bd | refine bs (by assumption) ?_) | exact HB.out); have n12_ := ge_ hg (by repeat first | (with_reducible first | exact HB.out | apply ba | apply bn | apply bd | refine bs (by assumption) ?_) | exact HB.out); have n13_ := nl_ hg BKz13; have n14_ := ng_ hg BKz13; have n15_ := nl_ hg BKz18; have n16_ := ng_ hg BKz18; have n17_ := nl_ hg BKz30; have n18_ := ng_ hg BKz30; clear HO_z14002; clear HO_z14003; clear HOz24; clear HOz27; clear HOz36; clear HOz39; clear BKz13; clear BKz18; clear BKz30; clear HB; have HO_z14002 := n0_; have HO_z14003 := n1_; have HOz24 := n2_; have HOz27 := n3_; have HOz36 := n4_; have HOz39 := n5_; have BKz13 := n6_; have BKz18 := n7_; have BKz30 := n8_; have HB := n9_; have BKz42 := n10_; have GWz42 := n11_; have GEz42 := n12_; have NBz13_z42 := n13_; have NBz42_z13 := n14_; have NBz18_z42 := n15_; have NBz42_z18 := n16_; have NBz30_z42 := n17_; have NBz42_z30 := n18_; clear n0_ n1_ n2_ n3_ n4_ n5_ n6_ n7_ n8_ n9_ n10_ n11_ n12_ n13_ n14_ n15_ n16_ n17_ n18_; clear hb hbox hg; have hnb62 := NBz42_z13.out; have hnc62 := NBz13_z42.out; have hnb63 := NBz42_z18.out; have hnc63 := NBz18_z42.out; have hnb64 := NBz42_z30.out; have hnc64 := NBz30_z42.out; obtain ⟨hcz65_0, hcz65_1, hcz65_2, hcz65_3, hcz65_4⟩ := bc5 BKz42; obtain ⟨hfz65_0, hfz65_1, hfz65_2, hfz65_3, hfz65_4⟩ := bf5 BKz42; obtain ⟨Ao66, co66, eo66⟩ := Kd.R_slice HOz36.out; subst eo66; obtain ⟨Ao67, co67, eo67⟩ := Kd.R_slice HOz39.out; subst eo67; obtain ⟨hcz68_0, hcz68_1, hcz68_2, hcz68_3, hcz68_4⟩ := bc5 BKz13; obtain ⟨hfz68_0, hfz68_1, hfz68_2, hfz68_3, hfz68_4⟩ := bf5 BKz13) | ((with_reducible refine gate_callee (f := 41) rfl ?_); refine goesL_ (some 99) rfl rfl Try.func41 (by kernel_rfl) rfl #[.agg #[.string tz4, .int .i64 tz5, .slice Ao21 tz6.length co21, .slice Ao22 tz9.length co22, .bool tz12], .string sx11, .string (⟨#[115, 104, 111, 114, 116]⟩ : ByteArray)] rfl (by (try simp only [List.map_toArray, List.map_cons, List.map_nil]) <;> rfl) ?_; (with_reducible refine (ideal_Seal.calls k1 tz4 tz5 _ _ tz6 _ _ tz9 tz12 sx11 (⟨#[115, 104, 111, 114, 116]⟩ : ByteArray) tz43 tz44 tz45 tz46 tz49 tz52 tz53 _ ?side1 ?side2 ?side3 ?side4 A33.out).mono ?_); (case side1 => refine (Kd.R_reads' (e := 72) (base := w.heap.size) (ok := fun k_ => ((True ∧ some k_ ≠ (.slice Ao57 tz22.length co57 : Value).ownBlock) ∧ some k_ ≠ (.slice Ao66 tz34.length co66 : Value).ownBlock)) (n := tz6.length) (c := co21) ?_).2.2; exact (by (with_reducible repeat first | apply ra | apply rn | apply rd); exact (rs5 HO_z14002 BKz42 (by decide)))); (case side2 => exact (Kd.R_reads' HO_z14002.out).2.1); (case side3 => refine (Kd.R_reads' (e := 74) (base := w.heap.size) (ok := fun k_ => ((True ∧ some k_ ≠ (.slice Ao58 tz25.length co58 : Value).ownBlock) ∧ some k_ ≠ (.slice Ao67 tz37.length co67 : Value).ownBlock)) (n := tz9.length) (c := co22) ?_).2.2; exact (by (with_reducible repeat first | apply ra | apply rn | apply rd); exact (rs5 HO_z14003 BKz42 (by decide)))); (case side4 => exact (Kd.R_reads' HO_z14003.out).2.1); rintro e w69 ⟨vz47, vz50, rfl, ho0, ho1, hb⟩; refine ⟨_, rfl, ?_⟩; have n0_ := am (Kd.R_elder' (by (with_reducible repeat first | apply ra | apply rn | apply rd); exact (rs5 HO_z14002 BKz42 (by decide))) (Kd.R_base ho0) hb); have n1_ := am (Kd.R_elder' (by (with_reducible repeat first | apply ra | apply rn | apply rd); exact (rs5 HO_z14003 BKz42 (by decide))) (Kd.R_base ho1) hb); have n2_ := am (Kd.R_elder' (by (with_reducible repeat first | apply ra | apply rn | apply rd); exact (rs5 HOz24 BKz42 (by decide))) (Kd.R_base ho0) hb); have n3_ := am (Kd.R_elder' (by (with_reducible repeat first | apply ra | apply rn | apply rd); exact (rs5 HOz27 BKz42 (by decide))) (Kd.R_base ho1) hb); have n4_ := am (Kd.R_elder' (by (with_reducible repeat first | apply ra | apply rn | apply rd); exact (rs5 HOz36 BKz42 (by decide))) (Kd.R_base ho0) hb); have n5_ := am (Kd.R_elder' (by (with_reducible repeat first | apply ra | apply rn | apply rd); exact (rs5 HOz39 BKz42 (by decide))) (Kd.R_base ho1) hb); have n6_ := am (Kd.R_lower (Kd.R_new' (Kd.R_new' (Kd.R_new' ho0 (Kd.R_lt (by (with_reducible repeat first | apply ra | apply rn | apply rd); exact (rs5 HO_z14002 BKz42 (by decide))))) (Kd.R_lt (by (with_reducible repeat first | apply ra | apply rn | apply rd); exact (rs5 HOz24 BKz42 (by decide))))) (Kd.R_lt (by (with_reducible repeat first | apply ra | apply rn | apply rd); exact (rs5 HOz36 BKz42 (by decide))))) (below_size (by repeat first | (with_reducible first | exact HB.out | apply ba | apply bn | apply bd | refine bs (by assumption) ?_) | exact HB.out))); have n7_ := am (Kd.R_lower (Kd.R_new' (Kd.R_new' (Kd.R_new' ho1 (Kd.R_lt (by (with_reducible repeat first | apply ra | apply rn | apply rd); exact (rs5 HO_z14003 BKz42 (by decide))))) (Kd.R_lt (by (with_reducible repeat first | apply ra | apply rn | apply rd); exact (rs5 HOz27 BKz42 (by decide))))) (Kd.R_lt (by (with_reducible repeat first | apply ra | apply rn | apply rd); exact (rs5 HOz39 BKz42 (by decide))))) (below_size (by repeat first | (with_reducible first | exact HB.out | apply ba | apply bn | apply bd | refine bs (by assumption) ?_) | exact HB.out))); have n8_ := am (bkB (g := gbz13) (o := .cells #[.string tz4, .int .i64 tz5, .slice Ao21 tz6.length co21, .slice Ao22 tz9.length co22, .bool tz12] 50 (0, 0)) (by (with_reducible repeat (first | refine blk_drewN ?_ _ | refine bkD ?_ | refine bkA ?_ _)); refine br5 ?_ NBz13_z42; exact pk BKz13) hb); have n9_ := am (bkB (g := gbz18) (o := .cells #[.string tz4, .int .i64 (tz4.size : Int), .slice Ao21 tz6.length co21, .slice Ao22 tz9.length co22, .bool tz12] 50 (0, 0)) (by (with_reducible repeat (first | refine blk_drewN ?_ _ | refine bkD ?_ | refine bkA ?_ _)); refine br5 ?_ NBz18_z42; exact pk BKz18) hb); have n10_ := am (bkB (g := gbz30) (o := .cells #[.string tz20, .int .i64 tz21, .slice Ao57 tz22.length co57, .slice Ao58 tz25.length co58, .bool tz28] 50 (0, 0)) (by (with_reducible repeat (first | refine blk_drewN ?_ _ | refine bkD ?_ | refine bkA ?_ _)); refine br5 ?_ NBz30_z42; exact pk BKz30) hb); have n11_ := am (bkB (g := gbz42) (o := .cells #[.string tz32, .int .i64 tz33, .slice Ao66 tz34.length co66, .slice Ao67 tz37.length co67, .bool tz40] 50 (0, 0)) (by (with_reducible repeat (first | refine blk_drewN ?_ _ | refine bkD ?_ | refine bkA ?_ _)); apply bp5; exact pk BKz42) hb); have n12_ := am (below_step (by repeat first | (with_reducible first | exact HB.out | apply ba | apply bn | apply bd | refine bs (by assumption) ?_) | exact HB.out) hb); clear HO_z14002; clear HO_z14003; clear HOz24; clear HOz27; clear HOz36; clear HOz39; clear BKz13; clear BKz18; clear BKz30; clear BKz42; clear HB; have HO_z14002 := n0_; have HO_z14003 := n1_; have HOz24 := n2_; have HOz27 := n3_; have HOz36 := n4_; have HOz39 := n5_; have HOz48 := n6_; have HOz51 := n7_; have BKz13 := n8_; have BKz18 := n9_; have BKz30 := n10_; have BKz42 := n11_; have HB := n12_; clear n0_ n1_ n2_ n3_ n4_ n5_ n6_ n7_ n8_ n9_ n10_ n11_ n12_; (try clear ho1)) | ((with_reducible refine gate_dst (N := 25) rfl ?_); refine box_event ?hg (N := 25) ?hd (cs := #[.string (⟨#[]⟩ : ByteArray), .int .i64 0, .slice none 0 0, .slice none 0 0, .bool false]) (t := 50) ?hr ?_; (case hd => rfl); (case hg => rfl); (case hr => first | (go_simp; done) | (go_simp; rfl)); intro gbz54 hg w70 hbox hb; have n0_ := am (Kd.R_below (pr HO_z14002) hb); have n1_ := am (Kd.R_below (pr HO_z14003) hb); have n2_ := am (Kd.R_below (pr HOz24) hb); have n3_ := am (Kd.R_below (pr HOz27) hb); have n4_ := am (Kd.R_below (pr HOz36) hb); have n5_ := am (Kd.R_below (pr HOz39) hb); have n6_ := am (Kd.R_below (pr HOz48) hb); have n7_ := am (Kd.R_below (pr HOz51) hb); have n8_ := am (bkB (pk BKz13) hb); have n9_ := am (bkB (pk BKz18) hb); have n10_ := am (bkB (pk BKz30) hb); have n11_ := am (bkB (pk BKz42) hb); have n12_ := am (below_step (by repeat first | (with_reducible first | exact HB.out | apply ba | apply bn | apply bd | refine bs (by assumption) ?_) | exact HB.out) hb); have n13_ := am (hbox); have n14_ := ge_ hg (by repeat first | (with_reducible first | exact HB.out | apply ba | apply bn | apply bd | refine bs (by assumption) ?_) | exact HB.out); have n15_ := ge_ hg (by repeat first | (with_reducible first | exact HB.out | apply ba | apply bn | apply bd | refine bs (by assumption) ?_) | exact HB.out); have n16_ := nl_ hg BKz13; have n17_ := ng_ hg BKz13; have n18_ := nl_ hg BKz18; have n19_ := ng_ hg BKz18; have n20_ := nl_ hg BKz30; have n21_ := ng_ hg BKz30; have n22_ := nl_ hg BKz42; have n23_ := ng_ hg BKz42; clear HO_z14002; clear HO_z14003; clear HOz24; clear HOz27; clear HOz36; clear HOz39; clear HOz48; clear HOz51; clear BKz13; clear BKz18; clear BKz30; clear BKz42; clear HB; have HO_z14002 := n0_; have HO_z14003 := n1_; have HOz24 := n2_; have HOz27 := n3_; have HOz36 := n4_; have HOz39 := n5_; have HOz48 := n6_; have HOz51 := n7_; have BKz13 := n8_; have BKz18 := n9_; have BKz30 := n10_; have BKz42 := n11_; have HB := n12_; have BKz54 := n13_; have GWz54 := n14_; have GEz54 := n15_; have NBz13_z54 := n16_; have NBz54_z13 := n17_; have NBz18_z54 := n18_; have NBz54_z18 := n19_; have NBz30_z54 := n20_; have NBz54_z30 := n21_; have NBz42_z54 := n22_; have NBz54_z42 := n23_; clear n0_ n1_ n2_ n3_ n4_ n5_ n6_ n7_ n8_ n9_ n10_ n11_ n12_ n13_ n14_ n15_ n16_ n17_ n18_ n19_ n20_ n21_ n22_ n23_; clear hb hbox hg; have hnb71 := NBz54_z13.out; have hnc71 := NBz13_z54.out; have hnb72 := NBz54_z18.out; have hnc72 := NBz18_z54.out; have hnb73 := NBz54_z30.out; have hnc73 := NBz30_z54.out; have hnb74 := NBz54_z42.out; have hnc74 := NBz42_z54.out; obtain ⟨hcz75_0, hcz75_1, hcz75_2, hcz75_3, hcz75_4⟩ := bc5 BKz54; obtain ⟨hfz75_0, hfz75_1, hfz75_2, hfz75_3, hfz75_4⟩ := bf5 BKz54; obtain ⟨Ao76, co76, eo76⟩ := Kd.R_slice HOz48.out; subst eo76; obtain ⟨Ao77, co77, eo77⟩ := Kd.R_slice HOz51.out; subst eo77; obtain ⟨hcz78_0, hcz78_1, hcz78_2, hcz78_3, hcz78_4⟩ := bc5 BKz30; obtain ⟨hfz78_0, hfz78_1, hfz78_2, hfz78_3, hfz78_4⟩ := bf5 BKz30; obtain ⟨hcz79_0, hcz79_1, hcz79_2, hcz79_3, hcz79_4⟩ := bc5 BKz18; obtain ⟨hfz79_0, hfz79_1, hfz79_2, hfz79_3, hfz79_4⟩ := bf5 BKz18) | (go_at_call 32; (with_reducible refine (r8_Same.calls k1 tz20 tz21 _ _ tz22 _ _ tz25 tz28 tz4 (tz4.size : Int) _ _ tz6 _ _ tz9 tz12 true _ ?side1 ?side2 ?side3 ?side4 ?side5 ?side6 ?side7 ?side8 A38.out).mono ?_); (case side1 => refine (Kd.R_reads' (e := 72) (base := w.heap.size) (ok := fun k_ => (((True ∧ some k_ ≠ (.slice Ao21 tz6.length co21 : Value).ownBlock) ∧ some k_ ≠ (.slice Ao66 tz34.length co66 : Value).ownBlock) ∧ some k_ ≠ (.slice Ao76 tz46.length co76 : Value).ownBlock)) (n := tz22.length) (c := co57) ?_).2.2; exact (by (with_reducible repeat first | apply ra | apply rn | apply rd); exact (rs5 HOz24 BKz54 (by decide)))); (case side2 => exact (Kd.R_reads' HOz24.out).2.1); (case side3 => refine (Kd.R_reads' (e := 74) (base := w.heap.size) (ok := fun k_ => (((True ∧ some k_ ≠ (.slice Ao22 tz9.length co22 : Value).ownBlock) ∧ some k_ ≠ (.slice Ao67 tz37.length co67 : Value).ownBlock) ∧ some k_ ≠ (.slice Ao77 tz49.length co77 : Value).ownBlock)) (n := tz25.length) (c := co58) ?_).2.2; exact (by (with_reducible repeat first | apply ra | apply rn | apply rd); exact (rs5 HOz27 BKz54 (by decide)))); (case side4 => exact (Kd.R_reads' HOz27.out).2.1); (case side5 => refine (Kd.R_reads' (e := 72) (base := w.heap.size) (ok := fun k_ => (((True ∧ some k_ ≠ (.slice Ao57 tz22.length co57 : Value).ownBlock) ∧ some k_ ≠ (.slice Ao66 tz34.length co66 : Value).ownBlock) ∧ some k_ ≠ (.slice Ao76 tz46.length co76 : Value).ownBlock)) (n := tz6.length) (c := co21) ?_).2.2; exact (by (with_reducible repeat first | apply ra | apply rn | apply rd); exact (rs5 HO_z14002 BKz54 (by decide)))); (case side6 => exact (Kd.R_reads' HO_z14002.out).2.1); (case side7 => refine (Kd.R_reads' (e := 74) (base := w.heap.size) (ok := fun k_ => (((True ∧ some k_ ≠ (.slice Ao58 tz25.length co58 : Value).ownBlock) ∧ some k_ ≠ (.slice Ao67 tz37.length co67 : Value).ownBlock) ∧ some k_ ≠ (.slice Ao77 tz49.length co77 : Value).ownBlock)) (n := tz9.length) (c := co22) ?_).2.2; exact (by (with_reducible repeat first | apply ra | apply rn | apply rd); exact (rs5 HO_z14003 BKz54 (by decide)))); (case side8 => exact (Kd.R_reads' HO_z14003.out).2.1); rintro e w80 ⟨rfl, hb⟩; have n0_ := am (Kd.R_below (by (with_reducible repeat first | apply ra | apply rn | apply rd); exact (rs5 HO_z14002 BKz54 (by decide))) hb); have n1_ := am (Kd.R_below (by (with_reducible repeat first | apply ra | apply rn | apply rd); exact (rs5 HO_z14003 BKz54 (by decide))) hb); have n2_ := am (Kd.R_below (by (with_reducible repeat first | apply ra | apply rn | apply rd); exact (rs5 HOz24 BKz54 (by decide))) hb); have n3_ := am (Kd.R_below (by (with_reducible repeat first | apply ra | apply rn | apply rd); exact (rs5 HOz27 BKz54 (by decide))) hb); have n4_ := am (Kd.R_below (by (with_reducible repeat first | apply ra | apply rn | apply rd); exact (rs5 HOz36 BKz54 (by decide))) hb); have n5_ := am (Kd.R_below (by (with_reducible repeat first | apply ra | apply rn | apply rd); exact (rs5 HOz39 BKz54 (by decide))) hb); have n6_ := am (Kd.R_below (by (with_reducible repeat first | apply ra | apply rn | apply rd); exact (rs5 HOz48 BKz54 (by decide))) hb); have n7_ := am (Kd.R_below (by (with_reducible repeat first | apply ra | apply rn | apply rd); exact (rs5 HOz51 BKz54 (by decide))) hb); have n8_ := am (bkB (g := gbz13) (o := .cells #[.string tz4, .int .i64 tz5, .slice Ao21 tz6.length co21, .slice Ao22 tz9.length co22, .bool tz12] 50 (0, 0)) (by (with_reducible repeat (first | refine blk_drewN ?_ _ | refine bkD ?_ | refine bkA ?_ _)); refine br5 ?_ NBz13_z54; exact pk BKz13) hb); have n9_ := am (bkB (g := gbz18) (o := .cells #[.string tz4, .int .i64 (tz4.size : Int), .slice Ao21 tz6.length co21, .slice Ao22 tz9.length co22, .bool tz12] 50 (0, 0)) (by (with_reducible repeat (first | refine blk_drewN ?_ _ | refine bkD ?_ | refine bkA ?_ _)); refine br5 ?_ NBz18_z54; exact pk BKz18) hb); have n10_ := am (bkB (g := gbz30) (o := .cells #[.string tz20, .int .i64 tz21, .slice Ao57 tz22.length co57, .slice Ao58 tz25.length co58, .bool tz28] 50 (0, 0)) (by (with_reducible repeat (first | refine blk_drewN ?_ _ | refine bkD ?_ | refine bkA ?_ _)); refine br5 ?_ NBz30_z54; exact pk BKz30) hb); have n11_ := am (bkB (g := gbz42) (o := .cells #[.string tz32, .int .i64 tz33, .slice Ao66 tz34.length co66, .slice Ao67 tz37.length co67, .bool tz40] 50 (0, 0)) (by (with_reducible repeat (first | refine blk_drewN ?_ _ | refine bkD ?_ | refine bkA ?_ _)); refine br5 ?_ NBz42_z54; exact pk BKz42) hb); have n12_ := am (bkB (g := gbz54) (o := .cells #[.string tz44, .int .i64 tz45, .slice Ao76 tz46.length co76, .slice Ao77 tz49.length co77, .bool tz52] 50 (0, 0)) (by (with_reducible repeat (first | refine blk_drewN ?_ _ | refine bkD ?_ | refine bkA ?_ _)); apply bp5; exact pk BKz54) hb); have n13_ := am (below_step (by repeat first | (with_reducible first | exact HB.out | apply ba | apply bn | apply bd | refine bs (by assumption) ?_) | exact HB.out) hb); clear HO_z14002; clear HO_z14003; clear HOz24; clear HOz27; clear HOz36; clear HOz39; clear HOz48; clear HOz51; clear BKz13; clear BKz18; clear BKz30; clear BKz42; clear BKz54; clear HB; have HO_z14002 := n0_; have HO_z14003 := n1_; have HOz24 := n2_; have HOz27 := n3_; have HOz36 := n4_; have HOz39 := n5_; have HOz48 := n6_; have HOz51 := n7_; have BKz13 := n8_; have BKz18 := n9_; have BKz30 := n10_; have BKz42 := n11_; have BKz54 := n12_; have HB := n13_; clear n0_ n1_ n2_ n3_ n4_ n5_ n6_ n7_ n8_ n9_ n10_ n11_ n12_ n13_; obtain ⟨hcz81_0, hcz81_1, hcz81_2, hcz81_3, hcz81_4⟩ := bc5 BKz42; obtain ⟨hfz81_0, hfz81_1, hfz81_2, hfz81_3, hfz81_4⟩ := bf5 BKz42; obtain ⟨hcz82_0, hcz82_1, hcz82_2, hcz82_3, hcz82_4⟩ := bc5 BKz18; obtain ⟨hfz82_0, hfz82_1, hfz82_2, hfz82_3, hfz82_4⟩ := bf5 BKz18) | (go_at_call 32; (with_reducible refine (r8_Same.calls k1 tz32 tz33 _ _ tz34 _ _ tz37 tz40 tz4 (tz4.size : Int) _ _ tz6 _ _ tz9 tz12 true _ ?side1 ?side2 ?side3 ?side4 ?side5 ?side6 ?side7 ?side8 A41.out).mono ?_); (case side1 => repeat (first | exact (Kd.R_reads' HOz36.out).2.2 | (with_reducible refine Kd.C_alloc ?_ _) | (with_reducible refine Kd.C_drewN ?_ _) | (with_reducible refine Kd.C_drew ?_))); (case side2 => exact (Kd.R_reads' HOz36.out).2.1); (case side3 => repeat (first | exact (Kd.R_reads' HOz39.out).2.2 | (with_reducible refine Kd.C_alloc ?_ _) | (with_reducible refine Kd.C_drewN ?_ _) | (with_reducible refine Kd.C_drew ?_))); (case side4 => exact (Kd.R_reads' HOz39.out).2.1); (case side5 => repeat (first | exact (Kd.R_reads' HO_z14002.out).2.2 | (with_reducible refine Kd.C_alloc ?_ _) | (with_reducible refine Kd.C_drewN ?_ _) | (with_reducible refine Kd.C_drew ?_))); (case side6 => exact (Kd.R_reads' HO_z14002.out).2.1); (case side7 => repeat (first | exact (Kd.R_reads' HO_z14003.out).2.2 | (with_reducible refine Kd.C_alloc ?_ _) | (with_reducible refine Kd.C_drewN ?_ _) | (with_reducible refine Kd.C_drew ?_))); (case side8 => exact (Kd.R_reads' HO_z14003.out).2.1); rintro e w83 ⟨rfl, hb⟩; have n0_ := am (Kd.R_below (pr HO_z14002) hb); have n1_ := am (Kd.R_below (pr HO_z14003) hb); have n2_ := am (Kd.R_below (pr HOz24) hb); have n3_ := am (Kd.R_below (pr HOz27) hb); have n4_ := am (Kd.R_below (pr HOz36) hb); have n5_ := am (Kd.R_below (pr HOz39) hb); have n6_ := am (Kd.R_below (pr HOz48) hb); have n7_ := am (Kd.R_below (pr HOz51) hb); have n8_ := am (bkB (pk BKz13) hb); have n9_ := am (bkB (pk BKz18) hb); have n10_ := am (bkB (pk BKz30) hb); have n11_ := am (bkB (pk BKz42) hb); have n12_ := am (bkB (pk BKz54) hb); have n13_ := am (below_step (by repeat first | (with_reducible first | exact HB.out | apply ba | apply bn | apply bd | refine bs (by assumption) ?_) | exact HB.out) hb); clear HO_z14002; clear HO_z14003; clear HOz24; clear HOz27; clear HOz36; clear HOz39; clear HOz48; clear HOz51; clear BKz13; clear BKz18; clear BKz30; clear BKz42; clear BKz54; clear HB; have HO_z14002 := n0_; have HO_z14003 := n1_; have HOz24 := n2_; have HOz27 := n3_; have HOz36 := n4_; have HOz39 := n5_; have HOz48 := n6_; have HOz51 := n7_; have BKz13 := n8_; have BKz18 := n9_; have BKz30 := n10_; have BKz42 := n11_; have BKz54 := n12_; have HB := n13_; clear n0_ n1_ n2_ n3_ n4_ n5_ n6_ n7_ n8_ n9_ n10_ n11_ n12_ n13_; obtain ⟨hcz84_0, hcz84_1, hcz84_2, hcz84_3, hcz84_4⟩ := bc5 BKz54; obtain ⟨hfz84_0, hfz84_1, hfz84_2, hfz84_3, hfz84_4⟩ := bf5 BKz54; obtain ⟨hcz85_0, hcz85_1, hcz85_2, hcz85_3, hcz85_4⟩ := bc5 BKz13; obtain ⟨hfz85_0, hfz85_1, hfz85_2, hfz85_3, hfz85_4⟩ := bf5 BKz13) | (go_at_call 32; (with_reducible refine (r8_Same.calls k1 tz44 tz45 _ _ tz46 _ _ tz49 tz52 tz4 tz5 _ _ tz6 _ _ tz9 tz12 tz57 _ ?side1 ?side2 ?side3 ?side4 ?side5 ?side6 ?side7 ?side8 A44.out).mono ?_); (case side1 => repeat (first | exact (Kd.R_reads' HOz48.out).2.2 | (with_reducible refine Kd.C_alloc ?_ _) | (with_reducible refine Kd.C_drewN ?_ _) | (with_reducible refine Kd.C_drew ?_))); (case side2 => exact (Kd.R_reads' HOz48.out).2.1); (case side3 => repeat (first | exact (Kd.R_reads' HOz51.out).2.2 | (with_reducible refine Kd.C_alloc ?_ _) | (with_reducible refine Kd.C_drewN ?_ _) | (with_reducible refine Kd.C_drew ?_))); (case side4 => exact (Kd.R_reads' HOz51.out).2.1); (case side5 => repeat (first | exact (Kd.R_reads' HO_z14002.out).2.2 | (with_reducible refine Kd.C_alloc ?_ _) | (with_reducible refine Kd.C_drewN ?_ _) | (with_reducible refine Kd.C_drew ?_))); (case side6 => exact (Kd.R_reads' HO_z14002.out).2.1); (case side7 => repeat (first | exact (Kd.R_reads' HO_z14003.out).2.2 | (with_reducible refine Kd.C_alloc ?_ _) | (with_reducible refine Kd.C_drewN ?_ _) | (with_reducible refine Kd.C_drew ?_))); (case side8 => exact (Kd.R_reads' HO_z14003.out).2.1); rintro e w86 ⟨rfl, hb⟩; have n0_ := am (Kd.R_below (pr HO_z14002) hb); have n1_ := am (Kd.R_below (pr HO_z14003) hb); have n2_ := am (Kd.R_below (pr HOz24) hb); have n3_ := am (Kd.R_below (pr HOz27) hb); have n4_ := am (Kd.R_below (pr HOz36) hb); have n5_ := am (Kd.R_below (pr HOz39) hb); have n6_ := am (Kd.R_below (pr HOz48) hb); have n7_ := am (Kd.R_below (pr HOz51) hb); have n8_ := am (bkB (pk BKz13) hb); have n9_ := am (bkB (pk BKz18) hb); have n10_ := am (bkB (pk BKz30) hb); have n11_ := am (bkB (pk BKz42) hb); have n12_ := am (bkB (pk BKz54) hb); have n13_ := am (below_step (by repeat first | (with_reducible first | exact HB.out | apply ba | apply bn | apply bd | refine bs (by assumption) ?_) | exact HB.out) hb); clear HO_z14002; clear HO_z14003; clear HOz24; clear HOz27; clear HOz36; clear HOz39; clear HOz48; clear HOz51; clear BKz13; clear BKz18; clear BKz30; clear BKz42; clear BKz54; clear HB; have HO_z14002 := n0_; have HO_z14003 := n1_; have HOz24 := n2_; have HOz27 := n3_; have HOz36 := n4_; have HOz39 := n5_; have HOz48 := n6_; have HOz51 := n7_; have BKz13 := n8_; have BKz18 := n9_; have BKz30 := n10_; have BKz42 := n11_; have BKz54 := n12_; have HB := n13_; clear n0_ n1_ n2_ n3_ n4_ n5_ n6_ n7_ n8_ n9_ n10_ n11_ n12_ n13_; (try clear hi)))
  go_ret
  exact ⟨by first | rfl | (simp [errW_none, errW_some] <;> rfl) | (simp only [← hji8, ← hsx11, ← hji12, ← hsx15]; first | rfl | (simp [errW_none, errW_some] <;> rfl)) | (simp [*, errW_none, errW_some] <;> rfl), by repeat first | (with_reducible first | exact HB.out | apply ba | apply bn | apply bd | refine bs (by assumption) ?_) | exact HB.out⟩
 replace c36 := Bool.eq_false_iff.mpr c36
 subst c36
 have H1 : (if tz17 = 11 then (if tz29 = 12 then ((r8_Same.f k1 tz20 tz21 tz22 tz25 tz28 tz4 (tz4.size : Int) tz6 tz9 tz12).bind fun tz58 => (if tz58 = true then (if tz41 = 12 then ((r8_Same.f k1 tz32 tz33 tz34 tz37 tz40 tz4 (tz4.size : Int) tz6 tz9 tz12).bind fun tz59 => (if tz59 = true then (if tz53 = 1 then ((r8_Same.f k1 tz44 tz45 tz46 tz49 tz52 tz4 tz5 tz6 tz9 tz12).bind fun tz60 => (some tz60)) else (none)) else (none))) else (none)) else (none))) else (none)) else (none)) = some r := by rw [if_neg (show ¬ (false = true) by decide)] at H; exact H
 clear H
 have H := H1
 clear H1
 by_cases c87 : tz17 = 11
 rotate_left
 ·rw [if_neg c87] at H
  exact absurd H (by simp)
 rw [if_pos c87] at H
 have c87b0 : (tz17 == 11) = true := beq_iff_eq.mpr c87
 have c87b1 : (tz17 != 11) = false := bne_eq_false_iff_eq.mpr c87
 clear c87
 by_cases c88 : tz29 = 12
 rotate_left
 ·rw [if_neg c88] at H
  exact absurd H (by simp)
 rw [if_pos c88] at H
 have c88b0 : (tz29 == 12) = true := beq_iff_eq.mpr c88
 have c88b1 : (tz29 != 12) = false := bne_eq_false_iff_eq.mpr c88
 clear c88
 replace H := ob_ H
 obtain ⟨tz58, A890, H⟩ := H
 replace H : (if tz58 = true then (if tz41 = 12 then ((r8_Same.f k1 tz32 tz33 tz34 tz37 tz40 tz4 (tz4.size : Int) tz6 tz9 tz12).bind fun tz59 => (if tz59 = true then (if tz53 = 1 then ((r8_Same.f k1 tz44 tz45 tz46 tz49 tz52 tz4 tz5 tz6 tz9 tz12).bind fun tz60 => (some tz60)) else (none)) else (none))) else (none)) else (none)) = some r := H
 have A89 := Aside0.mk A890
 clear A890
 by_cases c90 : tz58 = true
 rotate_left
 ·replace c90 := Bool.eq_false_iff.mpr c90
  subst c90
  have H1 : (none) = some r := by rw [if_neg (show ¬ (false = true) by decide)] at H; exact H
  clear H
  have H := H1
  clear H1
  exact absurd H (by simp)
 subst c90
 have H1 : (if tz41 = 12 then ((r8_Same.f k1 tz32 tz33 tz34 tz37 tz40 tz4 (tz4.size : Int) tz6 tz9 tz12).bind fun tz59 => (if tz59 = true then (if tz53 = 1 then ((r8_Same.f k1 tz44 tz45 tz46 tz49 tz52 tz4 tz5 tz6 tz9 tz12).bind fun tz60 => (some tz60)) else (none)) else (none))) else (none)) = some r := by rw [if_pos rfl] at H; exact H
 clear H
 have H := H1
 clear H1
 by_cases c91 : tz41 = 12
 rotate_left
 ·rw [if_neg c91] at H
  exact absurd H (by simp)
 rw [if_pos c91] at H
 have c91b0 : (tz41 == 12) = true := beq_iff_eq.mpr c91
 have c91b1 : (tz41 != 12) = false := bne_eq_false_iff_eq.mpr c91
 clear c91
 replace H := ob_ H
 obtain ⟨tz59, A920, H⟩ := H
 replace H : (if tz59 = true then (if tz53 = 1 then ((r8_Same.f k1 tz44 tz45 tz46 tz49 tz52 tz4 tz5 tz6 tz9 tz12).bind fun tz60 => (some tz60)) else (none)) else (none)) = some r := H
 have A92 := Aside0.mk A920
 clear A920
 by_cases c93 : tz59 = true
 rotate_left
 ·replace c93 := Bool.eq_false_iff.mpr c93
  subst c93
  have H1 : (none) = some r := by rw [if_neg (show ¬ (false = true) by decide)] at H; exact H
  clear H
  have H := H1
  clear H1
  exact absurd H (by simp)
 subst c93
 have H1 : (if tz53 = 1 then ((r8_Same.f k1 tz44 tz45 tz46 tz49 tz52 tz4 tz5 tz6 tz9 tz12).bind fun tz60 => (some tz60)) else (none)) = some r := by rw [if_pos rfl] at H; exact H
 clear H
 have H := H1
 clear H1
 by_cases c94 : tz53 = 1
 rotate_left
 ·rw [if_neg c94] at H
  exact absurd H (by simp)
 rw [if_pos c94] at H
 have c94b0 : (tz53 == 1) = true := beq_iff_eq.mpr c94
 have c94b1 : (tz53 != 1) = false := bne_eq_false_iff_eq.mpr c94
 clear c94
 replace H := ob_ H
 obtain ⟨tz60, A950, H⟩ := H
 replace H : (some tz60) = some r := H
 have A95 := Aside0.mk A950
 clear A950
 obtain rfl := Option.some.inj H
 obtain ⟨hcz96_0, hcz96_1, hcz96_2, hcz96_3, hcz96_4⟩ := bc5 BKz13
 obtain ⟨hfz96_0, hfz96_1, hfz96_2, hfz96_3, hfz96_4⟩ := bf5 BKz13
 go_wp2_with (first | ((with_reducible refine gate_callee (f := 43) rfl ?_); refine goesL_ (some 74) rfl rfl Try.func43 (by kernel_rfl) rfl #[.agg #[.string tz4, .int .i64 tz5, .slice Ao21 tz6.length co21, .slice Ao22 tz9.length co22, .bool tz12], .string sx11, .string sx15] rfl (by (try simp only [List.map_toArray, List.map_cons, List.map_nil]) <;> rfl) ?_; (with_reducible refine (ideal_Open.calls tz4 tz5 _ _ tz6 _ _ tz9 tz12 sx11 sx15 tz16 tz17 _ ?side1 ?side2 ?side3 ?side4 A30.out).mono ?_); (case side1 => repeat (first | exact (Kd.R_reads' HO_z14002.out).2.2 | (with_reducible refine Kd.C_alloc ?_ _) | (with_reducible refine Kd.C_drewN ?_ _) | (with_reducible refine Kd.C_drew ?_))); (case side2 => exact (Kd.R_reads' HO_z14002.out).2.1); (case side3 => repeat (first | exact (Kd.R_reads' HO_z14003.out).2.2 | (with_reducible refine Kd.C_alloc ?_ _) | (with_reducible refine Kd.C_drewN ?_ _) | (with_reducible refine Kd.C_drew ?_))); (case side4 => exact (Kd.R_reads' HO_z14003.out).2.1); rintro e w97 ⟨rfl, hb⟩; refine ⟨_, rfl, ?_⟩; have n0_ := am (Kd.R_below (pr HO_z14002) hb); have n1_ := am (Kd.R_below (pr HO_z14003) hb); have n2_ := am (bkB (pk BKz13) hb); have n3_ := am (below_step (by repeat first | (with_reducible first | exact HB.out | apply ba | apply bn | apply bd | refine bs (by assumption) ?_) | exact HB.out) hb); clear HO_z14002; clear HO_z14003; clear BKz13; clear HB; have HO_z14002 := n0_; have HO_z14003 := n1_; have BKz13 := n2_; have HB := n3_; clear n0_ n1_ n2_ n3_; obtain ⟨hcz98_0, hcz98_1, hcz98_2, hcz98_3, hcz98_4⟩ := bc5 BKz13; obtain ⟨hfz98_0, hfz98_1, hfz98_2, hfz98_3, hfz98_4⟩ := bf5 BKz13) | ((with_reducible refine gate_dst (N := 17) rfl ?_); refine box_event ?hg (N := 17) ?hd (cs := #[.string (⟨#[]⟩ : ByteArray), .int .i64 0, .slice none 0 0, .slice none 0 0, .bool false]) (t := 50) ?hr ?_; (case hd => rfl); (case hg => rfl); (case hr => first | (go_simp; done) | (go_simp; rfl)); intro gbz18 hg w99 hbox hb; have n0_ := am (Kd.R_below (pr HO_z14002) hb); have n1_ := am (Kd.R_below (pr HO_z14003) hb); have n2_ := am (bkB (pk BKz13) hb); have n3_ := am (below_step (by repeat first | (with_reducible first | exact HB.out | apply ba | apply bn | apply bd | refine bs (by assumption) ?_) | exact HB.out) hb); have n4_ := am (hbox); have n5_ := ge_ hg (by repeat first | (with_reducible first | exact HB.out | apply ba | apply bn | apply bd | refine bs (by assumption) ?_) | exact HB.out); have n6_ := ge_ hg (by repeat first | (with_reducible first | exact HB.out | apply ba | apply bn | apply bd | refine bs (by assumption) ?_) | exact HB.out); have n7_ := nl_ hg BKz13; have n8_ := ng_ hg BKz13; clear HO_z14002; clear HO_z14003; clear BKz13; clear HB; have HO_z14002 := n0_; have HO_z14003 := n1_; have BKz13 := n2_; have HB := n3_; have BKz18 := n4_; have GWz18 := n5_; have GEz18 := n6_; have NBz13_z18 := n7_; have NBz18_z13 := n8_; clear n0_ n1_ n2_ n3_ n4_ n5_ n6_ n7_ n8_; clear hb hbox hg; have hnb100 := NBz18_z13.out; have hnc100 := NBz13_z18.out; obtain ⟨hcz101_0, hcz101_1, hcz101_2, hcz101_3, hcz101_4⟩ := bc5 BKz18; obtain ⟨hfz101_0, hfz101_1, hfz101_2, hfz101_3, hfz101_4⟩ := bf5 BKz18; obtain ⟨hcz102_0, hcz102_1, hcz102_2, hcz102_3, hcz102_4⟩ := bc5 BKz13; obtain ⟨hfz102_0, hfz102_1, hfz102_2, hfz102_3, hfz102_4⟩ := bf5 BKz13) | ((fail_if_success (have := mk_)); (with_reducible refine gate_dst (N := 85) rfl ?_); have mk_ : True := trivial; have x13_ : ((((((w99.setCell ⟨gbz18, 0, none⟩ (.string tz4)).setCell ⟨gbz18, 1, none⟩ (.int .i64 tz5)).setCell ⟨gbz18, 2, none⟩ (.slice Ao21 tz6.length co21)).setCell ⟨gbz18, 3, none⟩ (.slice Ao22 tz9.length co22)).setCell ⟨gbz18, 4, none⟩ (.bool tz12)).setCell ⟨gbz18, 1, none⟩ (.int .i64 (tz4.size : Int))).heap[gbz13]? = some (.cells #[.string tz4, .int .i64 tz5, .slice Ao21 tz6.length co21, .slice Ao22 tz9.length co22, .bool tz12] 50 (0, 0)) := blk_far (br5 (pk BKz13) NBz13_z18) NBz13_z18.out _; have x18_ : ((((((w99.setCell ⟨gbz18, 0, none⟩ (.string tz4)).setCell ⟨gbz18, 1, none⟩ (.int .i64 tz5)).setCell ⟨gbz18, 2, none⟩ (.slice Ao21 tz6.length co21)).setCell ⟨gbz18, 3, none⟩ (.slice Ao22 tz9.length co22)).setCell ⟨gbz18, 4, none⟩ (.bool tz12)).setCell ⟨gbz18, 1, none⟩ (.int .i64 (tz4.size : Int))).heap[gbz18]? = some (.cells #[.string tz4, .int .i64 (tz4.size : Int), .slice Ao21 tz6.length co21, .slice Ao22 tz9.length co22, .bool tz12] 50 (0, 0)) := blk_put (cs := #[.string tz4, .int .i64 tz5, .slice Ao21 tz6.length co21, .slice Ao22 tz9.length co22, .bool tz12]) (bp5 (pk BKz18)) 1 _ rfl; have xh0_ := am (Kd.R_mono (Kd.R_far (p := ⟨gbz18, 1, none⟩) (rf5 (v0 := (.string tz4)) (v1 := (.int .i64 tz5)) (v2 := (.slice Ao21 tz6.length co21)) (v3 := (.slice Ao22 tz9.length co22)) (v4 := (.bool tz12)) (Kd.R_types HO_z14002.out BKz18.out (by decide)) (fun _ hk => hk.2)) (fun _ hk => hk.2) (.int .i64 (tz4.size : Int))) (fun _ h_ => h_.1)); have xh1_ := am (Kd.R_mono (Kd.R_far (p := ⟨gbz18, 1, none⟩) (rf5 (v0 := (.string tz4)) (v1 := (.int .i64 tz5)) (v2 := (.slice Ao21 tz6.length co21)) (v3 := (.slice Ao22 tz9.length co22)) (v4 := (.bool tz12)) (Kd.R_types HO_z14003.out BKz18.out (by decide)) (fun _ hk => hk.2)) (fun _ hk => hk.2) (.int .i64 (tz4.size : Int))) (fun _ h_ => h_.1)); have xb_ : Below w.heap.size w ((((((w99.setCell ⟨gbz18, 0, none⟩ (.string tz4)).setCell ⟨gbz18, 1, none⟩ (.int .i64 tz5)).setCell ⟨gbz18, 2, none⟩ (.slice Ao21 tz6.length co21)).setCell ⟨gbz18, 3, none⟩ (.slice Ao22 tz9.length co22)).setCell ⟨gbz18, 4, none⟩ (.bool tz12)).setCell ⟨gbz18, 1, none⟩ (.int .i64 (tz4.size : Int))) := (by repeat (first | (with_reducible first | exact HB.out | refine below_set ?_ GEz18.out) | exact HB.out)); generalize ((((((w99.setCell ⟨gbz18, 0, none⟩ (.string tz4)).setCell ⟨gbz18, 1, none⟩ (.int .i64 tz5)).setCell ⟨gbz18, 2, none⟩ (.slice Ao21 tz6.length co21)).setCell ⟨gbz18, 3, none⟩ (.slice Ao22 tz9.length co22)).setCell ⟨gbz18, 4, none⟩ (.bool tz12)).setCell ⟨gbz18, 1, none⟩ (.int .i64 (tz4.size : Int))) = w99s at x13_ x18_ xh0_ xh1_ xb_ ⊢; clear BKz13 BKz18 HO_z14002 HO_z14003 HB; have BKz13 := am x13_; have BKz18 := am x18_; have HB := am xb_; have HO_z14002 := xh0_; have HO_z14003 := xh1_; clear x13_ x18_ xb_ xh0_ xh1_; obtain ⟨hy0_, hy1_, hy2_, hy3_, hy4_⟩ := bc5 BKz18) | ((with_reducible refine gate_callee (f := 35) rfl ?_); refine goesL_ (some 86) rfl rfl Try.func35 (by kernel_rfl) rfl #[.agg #[.string tz4, .int .i64 (tz4.size : Int), .slice Ao21 tz6.length co21, .slice Ao22 tz9.length co22, .bool tz12], .string (⟨#[110, 101, 118, 101, 114, 32, 97, 115, 107, 101, 100]⟩ : ByteArray)] rfl (by (try simp only [List.map_toArray, List.map_cons, List.map_nil]) <;> rfl) ?_; (with_reducible refine (ideal_Label.calls k1 tz4 (tz4.size : Int) _ _ tz6 _ _ tz9 tz12 (⟨#[110, 101, 118, 101, 114, 32, 97, 115, 107, 101, 100]⟩ : ByteArray) tz19 tz20 tz21 tz22 tz25 tz28 tz29 _ ?side1 ?side2 ?side3 ?side4 A31.out).mono ?_); (case side1 => refine (Kd.R_reads' (e := 72) (base := w.heap.size) (ok := fun k_ => True) (n := tz6.length) (c := co21) ?_).2.2; exact (by (with_reducible repeat first | apply ra | apply rn | apply rd); exact (HO_z14002.out))); (case side2 => exact (Kd.R_reads' HO_z14002.out).2.1); (case side3 => refine (Kd.R_reads' (e := 74) (base := w.heap.size) (ok := fun k_ => True) (n := tz9.length) (c := co22) ?_).2.2; exact (by (with_reducible repeat first | apply ra | apply rn | apply rd); exact (HO_z14003.out))); (case side4 => exact (Kd.R_reads' HO_z14003.out).2.1); rintro e w103 ⟨vz23, vz26, rfl, ho0, ho1, hb⟩; refine ⟨_, rfl, ?_⟩; have n0_ := am (Kd.R_elder' (by (with_reducible repeat first | apply ra | apply rn | apply rd); exact (HO_z14002.out)) (Kd.R_base ho0) hb); have n1_ := am (Kd.R_elder' (by (with_reducible repeat first | apply ra | apply rn | apply rd); exact (HO_z14003.out)) (Kd.R_base ho1) hb); have n2_ := am (Kd.R_lower (Kd.R_new' ho0 (Kd.R_lt (by (with_reducible repeat first | apply ra | apply rn | apply rd); exact (HO_z14002.out)))) (below_size (by repeat first | (with_reducible first | exact HB.out | apply ba | apply bn | apply bd | refine bs (by assumption) ?_) | exact HB.out))); have n3_ := am (Kd.R_lower (Kd.R_new' ho1 (Kd.R_lt (by (with_reducible repeat first | apply ra | apply rn | apply rd); exact (HO_z14003.out)))) (below_size (by repeat first | (with_reducible first | exact HB.out | apply ba | apply bn | apply bd | refine bs (by assumption) ?_) | exact HB.out))); have n4_ := am (bkB (pk BKz13) hb); have n5_ := am (bkB (pk BKz18) hb); have n6_ := am (below_step (by repeat first | (with_reducible first | exact HB.out | apply ba | apply bn | apply bd | refine bs (by assumption) ?_) | exact HB.out) hb); clear HO_z14002; clear HO_z14003; clear BKz13; clear BKz18; clear HB; have HO_z14002 := n0_; have HO_z14003 := n1_; have HOz24 := n2_; have HOz27 := n3_; have BKz13 := n4_; have BKz18 := n5_; have HB := n6_; clear n0_ n1_ n2_ n3_ n4_ n5_ n6_; (try clear ho1)) | ((with_reducible refine gate_dst (N := 19) rfl ?_); refine box_event ?hg (N := 19) ?hd (cs := #[.string (⟨#[]⟩ : ByteArray), .int .i64 0, .slice none 0 0, .slice none 0 0, .bool false]) (t := 50) ?hr ?_; (case hd => rfl); (case hg => rfl); (case hr => first | (go_simp; done) | (go_simp; rfl)); intro gbz30 hg w104 hbox hb; have n0_ := am (Kd.R_below (pr HO_z14002) hb); have n1_ := am (Kd.R_below (pr HO_z14003) hb); have n2_ := am (Kd.R_below (pr HOz24) hb); have n3_ := am (Kd.R_below (pr HOz27) hb); have n4_ := am (bkB (pk BKz13) hb); have n5_ := am (bkB (pk BKz18) hb); have n6_ := am (below_step (by repeat first | (with_reducible first | exact HB.out | apply ba | apply bn | apply bd | refine bs (by assumption) ?_) | exact HB.out) hb); have n7_ := am (hbox); have n8_ := ge_ hg (by repeat first | (with_reducible first | exact HB.out | apply ba | apply bn | apply bd | refine bs (by assumption) ?_) | exact HB.out); have n9_ := ge_ hg (by repeat first | (with_reducible first | exact HB.out | apply ba | apply bn | apply bd | refine bs (by assumption) ?_) | exact HB.out); have n10_ := nl_ hg BKz13; have n11_ := ng_ hg BKz13; have n12_ := nl_ hg BKz18; have n13_ := ng_ hg BKz18; clear HO_z14002; clear HO_z14003; clear HOz24; clear HOz27; clear BKz13; clear BKz18; clear HB; have HO_z14002 := n0_; have HO_z14003 := n1_; have HOz24 := n2_; have HOz27 := n3_; have BKz13 := n4_; have BKz18 := n5_; have HB := n6_; have BKz30 := n7_; have GWz30 := n8_; have GEz30 := n9_; have NBz13_z30 := n10_; have NBz30_z13 := n11_; have NBz18_z30 := n12_; have NBz30_z18 := n13_; clear n0_ n1_ n2_ n3_ n4_ n5_ n6_ n7_ n8_ n9_ n10_ n11_ n12_ n13_; clear hb hbox hg; have hnb105 := NBz30_z13.out; have hnc105 := NBz13_z30.out; have hnb106 := NBz30_z18.out; have hnc106 := NBz18_z30.out; obtain ⟨hcz107_0, hcz107_1, hcz107_2, hcz107_3, hcz107_4⟩ := bc5 BKz30; obtain ⟨hfz107_0, hfz107_1, hfz107_2, hfz107_3, hfz107_4⟩ := bf5 BKz30; obtain ⟨Ao108, co108, eo108⟩ := Kd.R_slice HOz24.out; subst eo108; obtain ⟨Ao109, co109, eo109⟩ := Kd.R_slice HOz27.out; subst eo109; obtain ⟨hcz110_0, hcz110_1, hcz110_2, hcz110_3, hcz110_4⟩ := bc5 BKz18; obtain ⟨hfz110_0, hfz110_1, hfz110_2, hfz110_3, hfz110_4⟩ := bf5 BKz18) | ((with_reducible refine gate_callee (f := 41) rfl ?_); refine goesL_ (some 92) rfl rfl Try.func41 (by kernel_rfl) rfl #[.agg #[.string tz4, .int .i64 (tz4.size : Int), .slice Ao21 tz6.length co21, .slice Ao22 tz9.length co22, .bool tz12], .string (⟨#[48, 49, 50, 51, 52, 53, 54, 55, 56, 57, 97, 98, 99, 100, 101, 102]⟩ : ByteArray), .string (⟨#[110, 101, 118, 101, 114, 32, 97, 115, 107, 101, 100, 44, 32, 97, 116, 32, 97, 110, 121, 32, 116, 105, 109, 101]⟩ : ByteArray)] rfl (by (try simp only [List.map_toArray, List.map_cons, List.map_nil]) <;> rfl) ?_; (with_reducible refine (ideal_Seal.calls k1 tz4 (tz4.size : Int) _ _ tz6 _ _ tz9 tz12 (⟨#[48, 49, 50, 51, 52, 53, 54, 55, 56, 57, 97, 98, 99, 100, 101, 102]⟩ : ByteArray) (⟨#[110, 101, 118, 101, 114, 32, 97, 115, 107, 101, 100, 44, 32, 97, 116, 32, 97, 110, 121, 32, 116, 105, 109, 101]⟩ : ByteArray) tz31 tz32 tz33 tz34 tz37 tz40 tz41 _ ?side1 ?side2 ?side3 ?side4 A32.out).mono ?_); (case side1 => refine (Kd.R_reads' (e := 72) (base := w.heap.size) (ok := fun k_ => (True ∧ some k_ ≠ (.slice Ao108 tz22.length co108 : Value).ownBlock)) (n := tz6.length) (c := co21) ?_).2.2; exact (by (with_reducible repeat first | apply ra | apply rn | apply rd); exact (rs5 HO_z14002 BKz30 (by decide)))); (case side2 => exact (Kd.R_reads' HO_z14002.out).2.1); (case side3 => refine (Kd.R_reads' (e := 74) (base := w.heap.size) (ok := fun k_ => (True ∧ some k_ ≠ (.slice Ao109 tz25.length co109 : Value).ownBlock)) (n := tz9.length) (c := co22) ?_).2.2; exact (by (with_reducible repeat first | apply ra | apply rn | apply rd); exact (rs5 HO_z14003 BKz30 (by decide)))); (case side4 => exact (Kd.R_reads' HO_z14003.out).2.1); rintro e w111 ⟨vz35, vz38, rfl, ho0, ho1, hb⟩; refine ⟨_, rfl, ?_⟩; have n0_ := am (Kd.R_elder' (by (with_reducible repeat first | apply ra | apply rn | apply rd); exact (rs5 HO_z14002 BKz30 (by decide))) (Kd.R_base ho0) hb); have n1_ := am (Kd.R_elder' (by (with_reducible repeat first | apply ra | apply rn | apply rd); exact (rs5 HO_z14003 BKz30 (by decide))) (Kd.R_base ho1) hb); have n2_ := am (Kd.R_elder' (by (with_reducible repeat first | apply ra | apply rn | apply rd); exact (rs5 HOz24 BKz30 (by decide))) (Kd.R_base ho0) hb); have n3_ := am (Kd.R_elder' (by (with_reducible repeat first | apply ra | apply rn | apply rd); exact (rs5 HOz27 BKz30 (by decide))) (Kd.R_base ho1) hb); have n4_ := am (Kd.R_lower (Kd.R_new' (Kd.R_new' ho0 (Kd.R_lt (by (with_reducible repeat first | apply ra | apply rn | apply rd); exact (rs5 HO_z14002 BKz30 (by decide))))) (Kd.R_lt (by (with_reducible repeat first | apply ra | apply rn | apply rd); exact (rs5 HOz24 BKz30 (by decide))))) (below_size (by repeat first | (with_reducible first | exact HB.out | apply ba | apply bn | apply bd | refine bs (by assumption) ?_) | exact HB.out))); have n5_ := am (Kd.R_lower (Kd.R_new' (Kd.R_new' ho1 (Kd.R_lt (by (with_reducible repeat first | apply ra | apply rn | apply rd); exact (rs5 HO_z14003 BKz30 (by decide))))) (Kd.R_lt (by (with_reducible repeat first | apply ra | apply rn | apply rd); exact (rs5 HOz27 BKz30 (by decide))))) (below_size (by repeat first | (with_reducible first | exact HB.out | apply ba | apply bn | apply bd | refine bs (by assumption) ?_) | exact HB.out))); have n6_ := am (bkB (g := gbz13) (o := .cells #[.string tz4, .int .i64 tz5, .slice Ao21 tz6.length co21, .slice Ao22 tz9.length co22, .bool tz12] 50 (0, 0)) (by (with_reducible repeat (first | refine blk_drewN ?_ _ | refine bkD ?_ | refine bkA ?_ _)); refine br5 ?_ NBz13_z30; exact pk BKz13) hb); have n7_ := am (bkB (g := gbz18) (o := .cells #[.string tz4, .int .i64 (tz4.size : Int), .slice Ao21 tz6.length co21, .slice Ao22 tz9.length co22, .bool tz12] 50 (0, 0)) (by (with_reducible repeat (first | refine blk_drewN ?_ _ | refine bkD ?_ | refine bkA ?_ _)); refine br5 ?_ NBz18_z30; exact pk BKz18) hb); have n8_ := am (bkB (g := gbz30) (o := .cells #[.string tz20, .int .i64 tz21, .slice Ao108 tz22.length co108, .slice Ao109 tz25.length co109, .bool tz28] 50 (0, 0)) (by (with_reducible repeat (first | refine blk_drewN ?_ _ | refine bkD ?_ | refine bkA ?_ _)); apply bp5; exact pk BKz30) hb); have n9_ := am (below_step (by repeat first | (with_reducible first | exact HB.out | apply ba | apply bn | apply bd | refine bs (by assumption) ?_) | exact HB.out) hb); clear HO_z14002; clear HO_z14003; clear HOz24; clear HOz27; clear BKz13; clear BKz18; clear BKz30; clear HB; have HO_z14002 := n0_; have HO_z14003 := n1_; have HOz24 := n2_; have HOz27 := n3_; have HOz36 := n4_; have HOz39 := n5_; have BKz13 := n6_; have BKz18 := n7_; have BKz30 := n8_; have HB := n9_; clear n0_ n1_ n2_ n3_ n4_ n5_ n6_ n7_ n8_ n9_; (try clear ho1)) | ((with_reducible refine gate_dst (N := 22) rfl ?_); refine box_event ?hg (N := 22) ?hd (cs := #[.string (⟨#[]⟩ : ByteArray), .int .i64 0, .slice none 0 0, .slice none 0 0, .bool false]) (t := 50) ?hr ?_; (case hd => rfl); (case hg => rfl); (case hr => first | (go_simp; done) | (go_simp; rfl)); intro gbz42 hg w112 hbox hb; have n0_ := am (Kd.R_below (pr HO_z14002) hb); have n1_ := am (Kd.R_below (pr HO_z14003) hb); have n2_ := am (Kd.R_below (pr HOz24) hb); have n3_ := am (Kd.R_below (pr HOz27) hb); have n4_ := am (Kd.R_below (pr HOz36) hb); have n5_ := am (Kd.R_below (pr HOz39) hb); have n6_ := am (bkB (pk BKz13) hb); have n7_ := am (bkB (pk BKz18) hb); have n8_ := am (bkB (pk BKz30) hb); have n9_ := am (below_step (by repeat first | (with_reducible first | exact HB.out | apply ba | apply bn | apply bd | refine bs (by assumption) ?_) | exact HB.out) hb); have n10_ := am (hbox); have n11_ := ge_ hg (by repeat first | (with_reducible first | exact HB.out | apply ba | apply bn | apply bd | refine bs (by assumption) ?_) | exact HB.out); have n12_ := ge_ hg (by repeat first | (with_reducible first | exact HB.out | apply ba | apply bn | apply bd | refine bs (by assumption) ?_) | exact HB.out); have n13_ := nl_ hg BKz13; have n14_ := ng_ hg BKz13; have n15_ := nl_ hg BKz18; have n16_ := ng_ hg BKz18; have n17_ := nl_ hg BKz30; have n18_ := ng_ hg BKz30; clear HO_z14002; clear HO_z14003; clear HOz24; clear HOz27; clear HOz36; clear HOz39; clear BKz13; clear BKz18; clear BKz30; clear HB; have HO_z14002 := n0_; have HO_z14003 := n1_; have HOz24 := n2_; have HOz27 := n3_; have HOz36 := n4_; have HOz39 := n5_; have BKz13 := n6_; have BKz18 := n7_; have BKz30 := n8_; have HB := n9_; have BKz42 := n10_; have GWz42 := n11_; have GEz42 := n12_; have NBz13_z42 := n13_; have NBz42_z13 := n14_; have NBz18_z42 := n15_; have NBz42_z18 := n16_; have NBz30_z42 := n17_; have NBz42_z30 := n18_; clear n0_ n1_ n2_ n3_ n4_ n5_ n6_ n7_ n8_ n9_ n10_ n11_ n12_ n13_ n14_ n15_ n16_ n17_ n18_; clear hb hbox hg; have hnb113 := NBz42_z13.out; have hnc113 := NBz13_z42.out; have hnb114 := NBz42_z18.out; have hnc114 := NBz18_z42.out; have hnb115 := NBz42_z30.out; have hnc115 := NBz30_z42.out; obtain ⟨hcz116_0, hcz116_1, hcz116_2, hcz116_3, hcz116_4⟩ := bc5 BKz42; obtain ⟨hfz116_0, hfz116_1, hfz116_2, hfz116_3, hfz116_4⟩ := bf5 BKz42; obtain ⟨Ao117, co117, eo117⟩ := Kd.R_slice HOz36.out; subst eo117; obtain ⟨Ao118, co118, eo118⟩ := Kd.R_slice HOz39.out; subst eo118; obtain ⟨hcz119_0, hcz119_1, hcz119_2, hcz119_3, hcz119_4⟩ := bc5 BKz13; obtain ⟨hfz119_0, hfz119_1, hfz119_2, hfz119_3, hfz119_4⟩ := bf5 BKz13) | ((with_reducible refine gate_callee (f := 41) rfl ?_); refine goesL_ (some 99) rfl rfl Try.func41 (by kernel_rfl) rfl #[.agg #[.string tz4, .int .i64 tz5, .slice Ao21 tz6.length co21, .slice Ao22 tz9.length co22, .bool tz12], .string sx11, .string (⟨#[115, 104, 111, 114, 116]⟩ : ByteArray)] rfl (by (try simp only [List.map_toArray, List.map_cons, List.map_nil]) <;> rfl) ?_; (with_reducible refine (ideal_Seal.calls k1 tz4 tz5 _ _ tz6 _ _ tz9 tz12 sx11 (⟨#[115, 104, 111, 114, 116]⟩ : ByteArray) tz43 tz44 tz45 tz46 tz49 tz52 tz53 _ ?side1 ?side2 ?side3 ?side4 A33.out).mono ?_); (case side1 => refine (Kd.R_reads' (e := 72) (base := w.heap.size) (ok := fun k_ => ((True ∧ some k_ ≠ (.slice Ao108 tz22.length co108 : Value).ownBlock) ∧ some k_ ≠ (.slice Ao117 tz34.length co117 : Value).ownBlock)) (n := tz6.length) (c := co21) ?_).2.2; exact (by (with_reducible repeat first | apply ra | apply rn | apply rd); exact (rs5 HO_z14002 BKz42 (by decide)))); (case side2 => exact (Kd.R_reads' HO_z14002.out).2.1); (case side3 => refine (Kd.R_reads' (e := 74) (base := w.heap.size) (ok := fun k_ => ((True ∧ some k_ ≠ (.slice Ao109 tz25.length co109 : Value).ownBlock) ∧ some k_ ≠ (.slice Ao118 tz37.length co118 : Value).ownBlock)) (n := tz9.length) (c := co22) ?_).2.2; exact (by (with_reducible repeat first | apply ra | apply rn | apply rd); exact (rs5 HO_z14003 BKz42 (by decide)))); (case side4 => exact (Kd.R_reads' HO_z14003.out).2.1); rintro e w120 ⟨vz47, vz50, rfl, ho0, ho1, hb⟩; refine ⟨_, rfl, ?_⟩; have n0_ := am (Kd.R_elder' (by (with_reducible repeat first | apply ra | apply rn | apply rd); exact (rs5 HO_z14002 BKz42 (by decide))) (Kd.R_base ho0) hb); have n1_ := am (Kd.R_elder' (by (with_reducible repeat first | apply ra | apply rn | apply rd); exact (rs5 HO_z14003 BKz42 (by decide))) (Kd.R_base ho1) hb); have n2_ := am (Kd.R_elder' (by (with_reducible repeat first | apply ra | apply rn | apply rd); exact (rs5 HOz24 BKz42 (by decide))) (Kd.R_base ho0) hb); have n3_ := am (Kd.R_elder' (by (with_reducible repeat first | apply ra | apply rn | apply rd); exact (rs5 HOz27 BKz42 (by decide))) (Kd.R_base ho1) hb); have n4_ := am (Kd.R_elder' (by (with_reducible repeat first | apply ra | apply rn | apply rd); exact (rs5 HOz36 BKz42 (by decide))) (Kd.R_base ho0) hb); have n5_ := am (Kd.R_elder' (by (with_reducible repeat first | apply ra | apply rn | apply rd); exact (rs5 HOz39 BKz42 (by decide))) (Kd.R_base ho1) hb); have n6_ := am (Kd.R_lower (Kd.R_new' (Kd.R_new' (Kd.R_new' ho0 (Kd.R_lt (by (with_reducible repeat first | apply ra | apply rn | apply rd); exact (rs5 HO_z14002 BKz42 (by decide))))) (Kd.R_lt (by (with_reducible repeat first | apply ra | apply rn | apply rd); exact (rs5 HOz24 BKz42 (by decide))))) (Kd.R_lt (by (with_reducible repeat first | apply ra | apply rn | apply rd); exact (rs5 HOz36 BKz42 (by decide))))) (below_size (by repeat first | (with_reducible first | exact HB.out | apply ba | apply bn | apply bd | refine bs (by assumption) ?_) | exact HB.out))); have n7_ := am (Kd.R_lower (Kd.R_new' (Kd.R_new' (Kd.R_new' ho1 (Kd.R_lt (by (with_reducible repeat first | apply ra | apply rn | apply rd); exact (rs5 HO_z14003 BKz42 (by decide))))) (Kd.R_lt (by (with_reducible repeat first | apply ra | apply rn | apply rd); exact (rs5 HOz27 BKz42 (by decide))))) (Kd.R_lt (by (with_reducible repeat first | apply ra | apply rn | apply rd); exact (rs5 HOz39 BKz42 (by decide))))) (below_size (by repeat first | (with_reducible first | exact HB.out | apply ba | apply bn | apply bd | refine bs (by assumption) ?_) | exact HB.out))); have n8_ := am (bkB (g := gbz13) (o := .cells #[.string tz4, .int .i64 tz5, .slice Ao21 tz6.length co21, .slice Ao22 tz9.length co22, .bool tz12] 50 (0, 0)) (by (with_reducible repeat (first | refine blk_drewN ?_ _ | refine bkD ?_ | refine bkA ?_ _)); refine br5 ?_ NBz13_z42; exact pk BKz13) hb); have n9_ := am (bkB (g := gbz18) (o := .cells #[.string tz4, .int .i64 (tz4.size : Int), .slice Ao21 tz6.length co21, .slice Ao22 tz9.length co22, .bool tz12] 50 (0, 0)) (by (with_reducible repeat (first | refine blk_drewN ?_ _ | refine bkD ?_ | refine bkA ?_ _)); refine br5 ?_ NBz18_z42; exact pk BKz18) hb); have n10_ := am (bkB (g := gbz30) (o := .cells #[.string tz20, .int .i64 tz21, .slice Ao108 tz22.length co108, .slice Ao109 tz25.length co109, .bool tz28] 50 (0, 0)) (by (with_reducible repeat (first | refine blk_drewN ?_ _ | refine bkD ?_ | refine bkA ?_ _)); refine br5 ?_ NBz30_z42; exact pk BKz30) hb); have n11_ := am (bkB (g := gbz42) (o := .cells #[.string tz32, .int .i64 tz33, .slice Ao117 tz34.length co117, .slice Ao118 tz37.length co118, .bool tz40] 50 (0, 0)) (by (with_reducible repeat (first | refine blk_drewN ?_ _ | refine bkD ?_ | refine bkA ?_ _)); apply bp5; exact pk BKz42) hb); have n12_ := am (below_step (by repeat first | (with_reducible first | exact HB.out | apply ba | apply bn | apply bd | refine bs (by assumption) ?_) | exact HB.out) hb); clear HO_z14002; clear HO_z14003; clear HOz24; clear HOz27; clear HOz36; clear HOz39; clear BKz13; clear BKz18; clear BKz30; clear BKz42; clear HB; have HO_z14002 := n0_; have HO_z14003 := n1_; have HOz24 := n2_; have HOz27 := n3_; have HOz36 := n4_; have HOz39 := n5_; have HOz48 := n6_; have HOz51 := n7_; have BKz13 := n8_; have BKz18 := n9_; have BKz30 := n10_; have BKz42 := n11_; have HB := n12_; clear n0_ n1_ n2_ n3_ n4_ n5_ n6_ n7_ n8_ n9_ n10_ n11_ n12_; (try clear ho1)) | ((with_reducible refine gate_dst (N := 25) rfl ?_); refine box_event ?hg (N := 25) ?hd (cs := #[.string (⟨#[]⟩ : ByteArray), .int .i64 0, .slice none 0 0, .slice none 0 0, .bool false]) (t := 50) ?hr ?_; (case hd => rfl); (case hg => rfl); (case hr => first | (go_simp; done) | (go_simp; rfl)); intro gbz54 hg w121 hbox hb; have n0_ := am (Kd.R_below (pr HO_z14002) hb); have n1_ := am (Kd.R_below (pr HO_z14003) hb); have n2_ := am (Kd.R_below (pr HOz24) hb); have n3_ := am (Kd.R_below (pr HOz27) hb); have n4_ := am (Kd.R_below (pr HOz36) hb); have n5_ := am (Kd.R_below (pr HOz39) hb); have n6_ := am (Kd.R_below (pr HOz48) hb); have n7_ := am (Kd.R_below (pr HOz51) hb); have n8_ := am (bkB (pk BKz13) hb); have n9_ := am (bkB (pk BKz18) hb); have n10_ := am (bkB (pk BKz30) hb); have n11_ := am (bkB (pk BKz42) hb); have n12_ := am (below_step (by repeat first | (with_reducible first | exact HB.out | apply ba | apply bn | apply bd | refine bs (by assumption) ?_) | exact HB.out) hb); have n13_ := am (hbox); have n14_ := ge_ hg (by repeat first | (with_reducible first | exact HB.out | apply ba | apply bn | apply bd | refine bs (by assumption) ?_) | exact HB.out); have n15_ := ge_ hg (by repeat first | (with_reducible first | exact HB.out | apply ba | apply bn | apply bd | refine bs (by assumption) ?_) | exact HB.out); have n16_ := nl_ hg BKz13; have n17_ := ng_ hg BKz13; have n18_ := nl_ hg BKz18; have n19_ := ng_ hg BKz18; have n20_ := nl_ hg BKz30; have n21_ := ng_ hg BKz30; have n22_ := nl_ hg BKz42; have n23_ := ng_ hg BKz42; clear HO_z14002; clear HO_z14003; clear HOz24; clear HOz27; clear HOz36; clear HOz39; clear HOz48; clear HOz51; clear BKz13; clear BKz18; clear BKz30; clear BKz42; clear HB; have HO_z14002 := n0_; have HO_z14003 := n1_; have HOz24 := n2_; have HOz27 := n3_; have HOz36 := n4_; have HOz39 := n5_; have HOz48 := n6_; have HOz51 := n7_; have BKz13 := n8_; have BKz18 := n9_; have BKz30 := n10_; have BKz42 := n11_; have HB := n12_; have BKz54 := n13_; have GWz54 := n14_; have GEz54 := n15_; have NBz13_z54 := n16_; have NBz54_z13 := n17_; have NBz18_z54 := n18_; have NBz54_z18 := n19_; have NBz30_z54 := n20_; have NBz54_z30 := n21_; have NBz42_z54 := n22_; have NBz54_z42 := n23_; clear n0_ n1_ n2_ n3_ n4_ n5_ n6_ n7_ n8_ n9_ n10_ n11_ n12_ n13_ n14_ n15_ n16_ n17_ n18_ n19_ n20_ n21_ n22_ n23_; clear hb hbox hg; have hnb122 := NBz54_z13.out; have hnc122 := NBz13_z54.out; have hnb123 := NBz54_z18.out; have hnc123 := NBz18_z54.out; have hnb124 := NBz54_z30.out; have hnc124 := NBz30_z54.out; have hnb125 := NBz54_z42.out; have hnc125 := NBz42_z54.out; obtain ⟨hcz126_0, hcz126_1, hcz126_2, hcz126_3, hcz126_4⟩ := bc5 BKz54; obtain ⟨hfz126_0, hfz126_1, hfz126_2, hfz126_3, hfz126_4⟩ := bf5 BKz54; obtain ⟨Ao127, co127, eo127⟩ := Kd.R_slice HOz48.out; subst eo127; obtain ⟨Ao128, co128, eo128⟩ := Kd.R_slice HOz51.out; subst eo128; obtain ⟨hcz129_0, hcz129_1, hcz129_2, hcz129_3, hcz129_4⟩ := bc5 BKz30; obtain ⟨hfz129_0, hfz129_1, hfz129_2, hfz129_3, hfz129_4⟩ := bf5 BKz30; obtain ⟨hcz130_0, hcz130_1, hcz130_2, hcz130_3, hcz130_4⟩ := bc5 BKz18; obtain ⟨hfz130_0, hfz130_1, hfz130_2, hfz130_3, hfz130_4⟩ := bf5 BKz18) | (go_at_call 32; (with_reducible refine (r8_Same.calls k1 tz20 tz21 _ _ tz22 _ _ tz25 tz28 tz4 (tz4.size : Int) _ _ tz6 _ _ tz9 tz12 true _ ?side1 ?side2 ?side3 ?side4 ?side5 ?side6 ?side7 ?side8 A89.out).mono ?_); (case side1 => refine (Kd.R_reads' (e := 72) (base := w.heap.size) (ok := fun k_ => (((True ∧ some k_ ≠ (.slice Ao21 tz6.length co21 : Value).ownBlock) ∧ some k_ ≠ (.slice Ao117 tz34.length co117 : Value).ownBlock) ∧ some k_ ≠ (.slice Ao127 tz46.length co127 : Value).ownBlock)) (n := tz22.length) (c := co108) ?_).2.2; exact (by (with_reducible repeat first | apply ra | apply rn | apply rd); exact (rs5 HOz24 BKz54 (by decide)))); (case side2 => exact (Kd.R_reads' HOz24.out).2.1); (case side3 => refine (Kd.R_reads' (e := 74) (base := w.heap.size) (ok := fun k_ => (((True ∧ some k_ ≠ (.slice Ao22 tz9.length co22 : Value).ownBlock) ∧ some k_ ≠ (.slice Ao118 tz37.length co118 : Value).ownBlock) ∧ some k_ ≠ (.slice Ao128 tz49.length co128 : Value).ownBlock)) (n := tz25.length) (c := co109) ?_).2.2; exact (by (with_reducible repeat first | apply ra | apply rn | apply rd); exact (rs5 HOz27 BKz54 (by decide)))); (case side4 => exact (Kd.R_reads' HOz27.out).2.1); (case side5 => refine (Kd.R_reads' (e := 72) (base := w.heap.size) (ok := fun k_ => (((True ∧ some k_ ≠ (.slice Ao108 tz22.length co108 : Value).ownBlock) ∧ some k_ ≠ (.slice Ao117 tz34.length co117 : Value).ownBlock) ∧ some k_ ≠ (.slice Ao127 tz46.length co127 : Value).ownBlock)) (n := tz6.length) (c := co21) ?_).2.2; exact (by (with_reducible repeat first | apply ra | apply rn | apply rd); exact (rs5 HO_z14002 BKz54 (by decide)))); (case side6 => exact (Kd.R_reads' HO_z14002.out).2.1); (case side7 => refine (Kd.R_reads' (e := 74) (base := w.heap.size) (ok := fun k_ => (((True ∧ some k_ ≠ (.slice Ao109 tz25.length co109 : Value).ownBlock) ∧ some k_ ≠ (.slice Ao118 tz37.length co118 : Value).ownBlock) ∧ some k_ ≠ (.slice Ao128 tz49.length co128 : Value).ownBlock)) (n := tz9.length) (c := co22) ?_).2.2; exact (by (with_reducible repeat first | apply ra | apply rn | apply rd); exact (rs5 HO_z14003 BKz54 (by decide)))); (case side8 => exact (Kd.R_reads' HO_z14003.out).2.1); rintro e w131 ⟨rfl, hb⟩; have n0_ := am (Kd.R_below (by (with_reducible repeat first | apply ra | apply rn | apply rd); exact (rs5 HO_z14002 BKz54 (by decide))) hb); have n1_ := am (Kd.R_below (by (with_reducible repeat first | apply ra | apply rn | apply rd); exact (rs5 HO_z14003 BKz54 (by decide))) hb); have n2_ := am (Kd.R_below (by (with_reducible repeat first | apply ra | apply rn | apply rd); exact (rs5 HOz24 BKz54 (by decide))) hb); have n3_ := am (Kd.R_below (by (with_reducible repeat first | apply ra | apply rn | apply rd); exact (rs5 HOz27 BKz54 (by decide))) hb); have n4_ := am (Kd.R_below (by (with_reducible repeat first | apply ra | apply rn | apply rd); exact (rs5 HOz36 BKz54 (by decide))) hb); have n5_ := am (Kd.R_below (by (with_reducible repeat first | apply ra | apply rn | apply rd); exact (rs5 HOz39 BKz54 (by decide))) hb); have n6_ := am (Kd.R_below (by (with_reducible repeat first | apply ra | apply rn | apply rd); exact (rs5 HOz48 BKz54 (by decide))) hb); have n7_ := am (Kd.R_below (by (with_reducible repeat first | apply ra | apply rn | apply rd); exact (rs5 HOz51 BKz54 (by decide))) hb); have n8_ := am (bkB (g := gbz13) (o := .cells #[.string tz4, .int .i64 tz5, .slice Ao21 tz6.length co21, .slice Ao22 tz9.length co22, .bool tz12] 50 (0, 0)) (by (with_reducible repeat (first | refine blk_drewN ?_ _ | refine bkD ?_ | refine bkA ?_ _)); refine br5 ?_ NBz13_z54; exact pk BKz13) hb); have n9_ := am (bkB (g := gbz18) (o := .cells #[.string tz4, .int .i64 (tz4.size : Int), .slice Ao21 tz6.length co21, .slice Ao22 tz9.length co22, .bool tz12] 50 (0, 0)) (by (with_reducible repeat (first | refine blk_drewN ?_ _ | refine bkD ?_ | refine bkA ?_ _)); refine br5 ?_ NBz18_z54; exact pk BKz18) hb); have n10_ := am (bkB (g := gbz30) (o := .cells #[.string tz20, .int .i64 tz21, .slice Ao108 tz22.length co108, .slice Ao109 tz25.length co109, .bool tz28] 50 (0, 0)) (by (with_reducible repeat (first | refine blk_drewN ?_ _ | refine bkD ?_ | refine bkA ?_ _)); refine br5 ?_ NBz30_z54; exact pk BKz30) hb); have n11_ := am (bkB (g := gbz42) (o := .cells #[.string tz32, .int .i64 tz33, .slice Ao117 tz34.length co117, .slice Ao118 tz37.length co118, .bool tz40] 50 (0, 0)) (by (with_reducible repeat (first | refine blk_drewN ?_ _ | refine bkD ?_ | refine bkA ?_ _)); refine br5 ?_ NBz42_z54; exact pk BKz42) hb); have n12_ := am (bkB (g := gbz54) (o := .cells #[.string tz44, .int .i64 tz45, .slice Ao127 tz46.length co127, .slice Ao128 tz49.length co128, .bool tz52] 50 (0, 0)) (by (with_reducible repeat (first | refine blk_drewN ?_ _ | refine bkD ?_ | refine bkA ?_ _)); apply bp5; exact pk BKz54) hb); have n13_ := am (below_step (by repeat first | (with_reducible first | exact HB.out | apply ba | apply bn | apply bd | refine bs (by assumption) ?_) | exact HB.out) hb); clear HO_z14002; clear HO_z14003; clear HOz24; clear HOz27; clear HOz36; clear HOz39; clear HOz48; clear HOz51; clear BKz13; clear BKz18; clear BKz30; clear BKz42; clear BKz54; clear HB; have HO_z14002 := n0_; have HO_z14003 := n1_; have HOz24 := n2_; have HOz27 := n3_; have HOz36 := n4_; have HOz39 := n5_; have HOz48 := n6_; have HOz51 := n7_; have BKz13 := n8_; have BKz18 := n9_; have BKz30 := n10_; have BKz42 := n11_; have BKz54 := n12_; have HB := n13_; clear n0_ n1_ n2_ n3_ n4_ n5_ n6_ n7_ n8_ n9_ n10_ n11_ n12_ n13_; obtain ⟨hcz132_0, hcz132_1, hcz132_2, hcz132_3, hcz132_4⟩ := bc5 BKz42; obtain ⟨hfz132_0, hfz132_1, hfz132_2, hfz132_3, hfz132_4⟩ := bf5 BKz42; obtain ⟨hcz133_0, hcz133_1, hcz133_2, hcz133_3, hcz133_4⟩ := bc5 BKz18; obtain ⟨hfz133_0, hfz133_1, hfz133_2, hfz133_3, hfz133_4⟩ := bf5 BKz18) | (go_at_call 32; (with_reducible refine (r8_Same.calls k1 tz32 tz33 _ _ tz34 _ _ tz37 tz40 tz4 (tz4.size : Int) _ _ tz6 _ _ tz9 tz12 true _ ?side1 ?side2 ?side3 ?side4 ?side5 ?side6 ?side7 ?side8 A92.out).mono ?_); (case side1 => repeat (first | exact (Kd.R_reads' HOz36.out).2.2 | (with_reducible refine Kd.C_alloc ?_ _) | (with_reducible refine Kd.C_drewN ?_ _) | (with_reducible refine Kd.C_drew ?_))); (case side2 => exact (Kd.R_reads' HOz36.out).2.1); (case side3 => repeat (first | exact (Kd.R_reads' HOz39.out).2.2 | (with_reducible refine Kd.C_alloc ?_ _) | (with_reducible refine Kd.C_drewN ?_ _) | (with_reducible refine Kd.C_drew ?_))); (case side4 => exact (Kd.R_reads' HOz39.out).2.1); (case side5 => repeat (first | exact (Kd.R_reads' HO_z14002.out).2.2 | (with_reducible refine Kd.C_alloc ?_ _) | (with_reducible refine Kd.C_drewN ?_ _) | (with_reducible refine Kd.C_drew ?_))); (case side6 => exact (Kd.R_reads' HO_z14002.out).2.1); (case side7 => repeat (first | exact (Kd.R_reads' HO_z14003.out).2.2 | (with_reducible refine Kd.C_alloc ?_ _) | (with_reducible refine Kd.C_drewN ?_ _) | (with_reducible refine Kd.C_drew ?_))); (case side8 => exact (Kd.R_reads' HO_z14003.out).2.1); rintro e w134 ⟨rfl, hb⟩; have n0_ := am (Kd.R_below (pr HO_z14002) hb); have n1_ := am (Kd.R_below (pr HO_z14003) hb); have n2_ := am (Kd.R_below (pr HOz24) hb); have n3_ := am (Kd.R_below (pr HOz27) hb); have n4_ := am (Kd.R_below (pr HOz36) hb); have n5_ := am (Kd.R_below (pr HOz39) hb); have n6_ := am (Kd.R_below (pr HOz48) hb); have n7_ := am (Kd.R_below (pr HOz51) hb); have n8_ := am (bkB (pk BKz13) hb); have n9_ := am (bkB (pk BKz18) hb); have n10_ := am (bkB (pk BKz30) hb); have n11_ := am (bkB (pk BKz42) hb); have n12_ := am (bkB (pk BKz54) hb); have n13_ := am (below_step (by repeat first | (with_reducible first | exact HB.out | apply ba | apply bn | apply bd | refine bs (by assumption) ?_) | exact HB.out) hb); clear HO_z14002; clear HO_z14003; clear HOz24; clear HOz27; clear HOz36; clear HOz39; clear HOz48; clear HOz51; clear BKz13; clear BKz18; clear BKz30; clear BKz42; clear BKz54; clear HB; have HO_z14002 := n0_; have HO_z14003 := n1_; have HOz24 := n2_; have HOz27 := n3_; have HOz36 := n4_; have HOz39 := n5_; have HOz48 := n6_; have HOz51 := n7_; have BKz13 := n8_; have BKz18 := n9_; have BKz30 := n10_; have BKz42 := n11_; have BKz54 := n12_; have HB := n13_; clear n0_ n1_ n2_ n3_ n4_ n5_ n6_ n7_ n8_ n9_ n10_ n11_ n12_ n13_; obtain ⟨hcz135_0, hcz135_1, hcz135_2, hcz135_3, hcz135_4⟩ := bc5 BKz54; obtain ⟨hfz135_0, hfz135_1, hfz135_2, hfz135_3, hfz135_4⟩ := bf5 BKz54; obtain ⟨hcz136_0, hcz136_1, hcz136_2, hcz136_3, hcz136_4⟩ := bc5 BKz13; obtain ⟨hfz136_0, hfz136_1, hfz136_2, hfz136_3, hfz136_4⟩ := bf5 BKz13) | (go_at_call 32; (with_reducible refine (r8_Same.calls k1 tz44 tz45 _ _ tz46 _ _ tz49 tz52 tz4 tz5 _ _ tz6 _ _ tz9 tz12 tz60 _ ?side1 ?side2 ?side3 ?side4 ?side5 ?side6 ?side7 ?side8 A95.out).mono ?_); (case side1 => repeat (first | exact (Kd.R_reads' HOz48.out).2.2 | (with_reducible refine Kd.C_alloc ?_ _) | (with_reducible refine Kd.C_drewN ?_ _) | (with_reducible refine Kd.C_drew ?_))); (case side2 => exact (Kd.R_reads' HOz48.out).2.1); (case side3 => repeat (first | exact (Kd.R_reads' HOz51.out).2.2 | (with_reducible refine Kd.C_alloc ?_ _) | (with_reducible refine Kd.C_drewN ?_ _) | (with_reducible refine Kd.C_drew ?_))); (case side4 => exact (Kd.R_reads' HOz51.out).2.1); (case side5 => repeat (first | exact (Kd.R_reads' HO_z14002.out).2.2 | (with_reducible refine Kd.C_alloc ?_ _) | (with_reducible refine Kd.C_drewN ?_ _) | (with_reducible refine Kd.C_drew ?_))); (case side6 => exact (Kd.R_reads' HO_z14002.out).2.1); (case side7 => repeat (first | exact (Kd.R_reads' HO_z14003.out).2.2 | (with_reducible refine Kd.C_alloc ?_ _) | (with_reducible refine Kd.C_drewN ?_ _) | (with_reducible refine Kd.C_drew ?_))); (case side8 => exact (Kd.R_reads' HO_z14003.out).2.1); rintro e w137 ⟨rfl, hb⟩; have n0_ := am (Kd.R_below (pr HO_z14002) hb); have n1_ := am (Kd.R_below (pr HO_z14003) hb); have n2_ := am (Kd.R_below (pr HOz24) hb); have n3_ := am (Kd.R_below (pr HOz27) hb); have n4_ := am (Kd.R_below (pr HOz36) hb); have n5_ := am (Kd.R_below (pr HOz39) hb); have n6_ := am (Kd.R_below (pr HOz48) hb); have n7_ := am (Kd.R_below (pr HOz51) hb); have n8_ := am (bkB (pk BKz13) hb); have n9_ := am (bkB (pk BKz18) hb); have n10_ := am (bkB (pk BKz30) hb); have n11_ := am (bkB (pk BKz42) hb); have n12_ := am (bkB (pk BKz54) hb); have n13_ := am (below_step (by repeat first | (with_reducible first | exact HB.out | apply ba | apply bn | apply bd | refine bs (by assumption) ?_) | exact HB.out) hb); clear HO_z14002; clear HO_z14003; clear HOz24; clear HOz27; clear HOz36; clear HOz39; clear HOz48; clear HOz51; clear BKz13; clear BKz18; clear BKz30; clear BKz42; clear BKz54; clear HB; have HO_z14002 := n0_; have HO_z14003 := n1_; have HOz24 := n2_; have HOz27 := n3_; have HOz36 := n4_; have HOz39 := n5_; have HOz48 := n6_; have HOz51 := n7_; have BKz13 := n8_; have BKz18 := n9_; have BKz30 := n10_; have BKz42 := n11_; have BKz54 := n12_; have HB := n13_; clear n0_ n1_ n2_ n3_ n4_ n5_ n6_ n7_ n8_ n9_ n10_ n11_ n12_ n13_; (try clear hi)))
 go_ret
 exact ⟨by first | rfl | (simp [errW_none, errW_some] <;> rfl) | (simp only [← hji8, ← hsx11, ← hji12, ← hsx15]; first | rfl | (simp [errW_none, errW_some] <;> rfl)) | (simp [*, errW_none, errW_some] <;> rfl), by repeat first | (with_reducible first | exact HB.out | apply ba | apply bn | apply bd | refine bs (by assumption) ?_) | exact HB.out⟩
end Go.Proofs.Ytmkncddbecmlpaa.Pr
end
section
set_option linter.unusedVariables false
namespace Go.Proofs.Ytmkncddbecmlpaa.Pr
open Go.RowKit Go.Proofs.YtmkncddbecmlpaaW.PrintWords Go.Proofs.YtmkncddbecmlpaaW.PrintLast Go.Proofs.YtmkncddbecmlpaaW.PrintMore
def rightB (b : ByteArray) (p : Int) : Bool := decide ((b.size : Int) ≤ 65536 ∧ 0 ≤ p ∧ p ≤ (b.size : Int))
def takeP (b : ByteArray) (p n : Int) : ByteArray × ByteArray × Int × Int :=
  if rightB b p = true ∧ 0 ≤ n then (if n > (b.size : Int) - p then (⟨#[]⟩, b, p, 12) else (b.extract p.toNat (p + n).toNat, b, p + n, 0)) else (⟨#[]⟩, b, p, 1)
theorem takeP_ok {b : ByteArray} {p n : Int} (h : rightB b p = true) (h0 : 0 ≤ n) (hl : n ≤ (b.size : Int) - p) : takeP b p n = (b.extract p.toNat (p + n).toNat, b, p + n, 0) := by
  unfold takeP; rw [if_pos ⟨h, h0⟩, if_neg (by omega)]
theorem takeP_short {b : ByteArray} {p n : Int} (h : rightB b p = true) (h0 : 0 ≤ n) (hl : n > (b.size : Int) - p) : takeP b p n = (⟨#[]⟩, b, p, 12) := by
  unfold takeP; rw [if_pos ⟨h, h0⟩, if_pos hl]
theorem takeP_bad {b : ByteArray} {p n : Int} (h : ¬ (rightB b p = true ∧ 0 ≤ n)) : takeP b p n = (⟨#[]⟩, b, p, 1) := by
  unfold takeP; rw [if_neg h]
theorem right_eq (b : ByteArray) (p : Int) : tape_Right.f b p = some (rightB b p) := by
  unfold tape_Right.f rightB
  by_cases h1 : (b.size : Int) ≤ 65536
  · by_cases h2 : p ≥ 0
    · rw [if_pos h1, if_pos h2]; simp [h1]; omega
    · rw [if_pos h1, if_neg h2]; simp; omega
  · rw [if_neg h1]; simp; omega
theorem rright_eq (b : ByteArray) (p : Int) : r7_Right.f b p = some (rightB b p) := right_eq b p
theorem rightB_iff {b : ByteArray} {p : Int} : rightB b p = true ↔ ((b.size : Int) ≤ 65536 ∧ 0 ≤ p ∧ p ≤ (b.size : Int)) := by unfold rightB; simp
def leftP (b : ByteArray) (p : Int) : Int := if rightB b p = true then (b.size : Int) - p else 0
theorem left_eq (b : ByteArray) (p : Int) : tape_Left.f b p = some (leftP b p) := by
  unfold tape_Left.f leftP
  rw [right_eq]
  simp only [Option.bind_some]
  by_cases h : rightB b p = true
  · rw [if_pos h, if_pos h]
    obtain ⟨h1, h2, h3⟩ := rightB_iff.1 h
    congr 1
    unfold wrap64; omega
  · rw [if_neg h, if_neg h]
theorem rleft_eq (b : ByteArray) (p : Int) : r7_Left.f b p = some (leftP b p) := left_eq b p
theorem extract_twice (b : ByteArray) (i n : Nat) (h : i + n ≤ b.size) : (b.extract i b.size).extract 0 n = b.extract i (i + n) := by
  rw [ByteArray.extract_extract]
  congr 1 <;> omega
theorem extract_size' (b : ByteArray) (i j : Nat) (h : j ≤ b.size) : (b.extract i j).size = j - i := by
  rw [ByteArray.size_extract]; omega
theorem take_eq (b : ByteArray) (p n : Int) (k : Nat) : tape_Take.f (k + 1) b p n = some (takeP b p n) := by
  unfold tape_Take.f
  rw [right_eq]
  simp only [Option.bind_some]
  by_cases h : rightB b p = true
  · obtain ⟨h1, h2, h3⟩ := rightB_iff.1 h
    rw [if_pos h]
    simp only [tape_Take.j0]
    by_cases hn : n < 0
    · rw [if_pos (decide_eq_true hn), takeP_bad (by omega)]
    · rw [if_neg (by simpa using hn), left_eq]
      simp only [Option.bind_some]
      have hL : leftP b p = (b.size : Int) - p := if_pos h
      rw [hL]
      by_cases hl : n > (b.size : Int) - p
      · rw [if_pos hl, takeP_short h (by omega) hl]
      · have e1 : (p.toNat : Int) = p := Int.toNat_of_nonneg h2
        have e2 : (n.toNat : Int) = n := Int.toNat_of_nonneg (by omega)
        rw [if_neg hl, if_pos h2, if_pos h3, if_pos (by omega), if_pos (by rw [extract_size' _ _ _ (Nat.le_refl _)]; omega)]
        rw [extract_twice b p.toNat n.toNat (by omega), show p.toNat + n.toNat = (p + n).toNat from by omega, show wrap64 (p + n) = p + n from by unfold wrap64; omega, takeP_ok h (by omega) (by omega)]
  · rw [if_neg h]
    simp only [tape_Take.j0]
    rw [if_pos (by simpa using h), takeP_bad (by simp [h])]
theorem rtake_eq (b : ByteArray) (p n : Int) (hw : n ≤ 9223372036854775807) (k : Nat) : r7_Take.f (k + 1) b p n = some (takeP b p n) := by
  unfold r7_Take.f
  rw [rright_eq]
  simp only [Option.bind_some]
  by_cases h : rightB b p = true
  · obtain ⟨h1, h2, h3⟩ := rightB_iff.1 h
    rw [if_pos h]
    simp only [r7_Take.j0]
    by_cases hn : n < 0
    · rw [if_pos (decide_eq_true hn), takeP_bad (by omega)]
    · rw [if_neg (by simpa using hn), rleft_eq]
      simp only [Option.bind_some]
      have hL : leftP b p = (b.size : Int) - p := if_pos h
      rw [hL]
      by_cases hl : n > (b.size : Int) - p
      · rw [if_pos hl, takeP_short h (by omega) hl]
      · have e : wrap64 (p + n) = p + n := by unfold wrap64; omega
        rw [if_neg hl, if_pos h2, e, if_pos (by omega), if_pos (by omega), takeP_ok h (by omega) (by omega)]
  · rw [if_neg h]
    simp only [r7_Take.j0]
    rw [if_pos trivial, takeP_bad (by simp [h])]
end Go.Proofs.Ytmkncddbecmlpaa.Pr
end
section
set_option linter.unusedVariables false
namespace Go.Proofs.Ytmkncddbecmlpaa.Pr
open Go.RowKit Go.Proofs.YtmkncddbecmlpaaW.PrintWords Go.Proofs.YtmkncddbecmlpaaW.PrintLast Go.Proofs.YtmkncddbecmlpaaW.PrintMore
theorem tapeP_eq (b : ByteArray) (a : Int) : tapeP b a = rightB b a := by
  unfold tapeP rightB
  by_cases h1 : (b.size : Int) ≤ 65536 <;> by_cases h2 : a ≥ 0 <;> by_cases h3 : a ≤ (b.size : Int) <;> simp [h1, h2, h3] <;> omega
structure RightS (b : ByteArray) (a : Int) (ns : List S72) (cs : List S74) (cl : Bool) : Prop where
  tape : rightB b a = true
  len : ns.length ≤ 2000 ∧ cs.length ≤ 2000
  names : ∀ n ∈ ns, n.f0.size ≤ 100 ∧ n.f1.size = 16
  cells : ∀ c ∈ cs, c.f0.size = 16 ∧ c.f1.size = 24 ∧ c.f2.size = 40
  dn : (ns.map fun n => n.f0).Nodup
  dc : (cs.map fun c => (c.f0, c.f1)).Nodup
  clash : cl = clashP ns cs
theorem oddName_iff (n : S72) : oddName n = false ↔ n.f0.size ≤ 100 ∧ n.f1.size = 16 := by
  unfold oddName; simp; omega
theorem oddCell_iff (c : S74) : oddCell c = false ↔ c.f0.size = 16 ∧ c.f1.size = 24 ∧ c.f2.size = 40 := by
  unfold oddCell; simp; omega
theorem dup_iff {κ : Type} [DecidableEq κ] (l : List κ) : dup l = false ↔ l.Nodup := by unfold dup; simp
theorem rightP_iff {b : ByteArray} {a : Int} {ns : List S72} {cs : List S74} {cl : Bool} : rightP b a ns cs cl = true ↔ RightS b a ns cs cl := by
  unfold rightP
  rw [tapeP_eq]
  simp only [Bool.and_eq_true, Bool.not_eq_true', decide_eq_true_eq, beq_iff_eq, dup_iff, List.any_eq_false]
  constructor
  · rintro ⟨⟨⟨⟨⟨⟨h1, h2⟩, h3⟩, h4⟩, h5⟩, h6⟩, h7⟩
    exact ⟨h1, h2, fun n hn => (oddName_iff n).1 (by simpa using h3 n hn), fun c hc => (oddCell_iff c).1 (by simpa using h4 c hc), h5, h6, h7⟩
  · rintro ⟨h1, h2, h3, h4, h5, h6, h7⟩
    exact ⟨⟨⟨⟨⟨⟨h1, h2⟩, fun n hn => by simpa using (oddName_iff n).2 (h3 n hn)⟩, fun c hc => by simpa using (oddCell_iff c).2 (h4 c hc)⟩, h5⟩, h6⟩, h7⟩
def cut (b : ByteArray) (a n : Int) : ByteArray := b.extract a.toNat (a + n).toNat
theorem cut_size {b : ByteArray} {a n : Int} (h0 : 0 ≤ a) (hn : 0 ≤ n) (h : a + n ≤ (b.size : Int)) : ((cut b a n).size : Int) = n := by
  unfold cut
  rw [extract_size' _ _ _ (by omega)]
  omega
theorem own_eq {b : ByteArray} {a : Int} {ns : List S72} {cs : List S74} {cl : Bool} (hl : ns.length ≤ 2000 ∧ cs.length ≤ 2000) : ideal_own.f b a ns cs cl = some (b, a, ns, cs, cl) := by
  unfold ideal_own.f api_Name_69.f api_Made_70.f
  rw [if_pos (by omega)]
  simp only [Option.bind_some]
  rw [if_pos (by omega)]
  rfl
section
variable {b : ByteArray} {a : Int} {ns : List S72} {cs : List S74} {cl : Bool}
theorem RightS.name (h : RightS b a ns cs cl) {t : ByteArray} (ht : t.size ≤ 100) (hlen : ns.length < 2000) (hnew : ∀ n ∈ ns, n.f0 ≠ t) (hroom : a + 16 ≤ (b.size : Int)) :
    RightS b (a + 16) (ns ++ [⟨t, cut b a 16⟩]) cs (clashP (ns ++ [⟨t, cut b a 16⟩]) cs) where
  tape := by have := rightB_iff.1 h.tape; exact rightB_iff.2 ⟨this.1, by omega, hroom⟩
  len := ⟨by simp; omega, h.len.2⟩
  names n hn := by
    rcases List.mem_append.1 hn with hn | hn
    · exact h.names n hn
    · obtain rfl := List.mem_singleton.1 hn
      have := cut_size (rightB_iff.1 h.tape).2.1 (by omega) hroom
      exact ⟨ht, by simp only; omega⟩
  cells := h.cells
  dn := by
    rw [List.map_append, List.nodup_append]
    refine ⟨h.dn, by simp, ?_⟩
    intro x hx y hy
    obtain ⟨n, hn, rfl⟩ := List.mem_map.1 hx
    simp at hy
    subst hy
    exact hnew n hn
  dc := h.dc
  clash := rfl
theorem RightS.cell (h : RightS b a ns cs cl) {l t : ByteArray} (hl : l.size = 16) (ht : t.size = 24) (hlen : cs.length < 2000) (hnew : ∀ c ∈ cs, ¬ (c.f0 = l ∧ c.f1 = t)) (hroom : a + 40 ≤ (b.size : Int)) :
    RightS b (a + 40) ns (cs ++ [⟨l, t, cut b a 40⟩]) (clashP ns (cs ++ [⟨l, t, cut b a 40⟩])) where
  tape := by have := rightB_iff.1 h.tape; exact rightB_iff.2 ⟨this.1, by omega, hroom⟩
  len := ⟨h.len.1, by simp; omega⟩
  names := h.names
  cells n hn := by
    rcases List.mem_append.1 hn with hn | hn
    · exact h.cells n hn
    · obtain rfl := List.mem_singleton.1 hn
      have := cut_size (rightB_iff.1 h.tape).2.1 (by omega) hroom
      exact ⟨hl, ht, by simp only; omega⟩
  dn := h.dn
  dc := by
    rw [List.map_append, List.nodup_append]
    refine ⟨h.dc, by simp, ?_⟩
    intro x hx y hy
    obtain ⟨n, hn, rfl⟩ := List.mem_map.1 hx
    simp at hy
    subst hy
    intro e
    exact hnew n hn (by simpa using e)
  clash := rfl
theorem fnd_none {α : Type} {z : α} {p : α → Bool} {xs : List α} (h : ∀ x ∈ xs, p x = false) : fnd z p xs = (z, false) := by
  unfold fnd
  rw [List.find?_eq_none.2 (fun x hx => by simp [h x hx])]
theorem fnd_some {α : Type} {z : α} {p : α → Bool} {xs : List α} {x : α} (hx : x ∈ xs) (hp : p x = true) : ∃ y ∈ xs, p y = true ∧ fnd z p xs = (y, true) := by
  unfold fnd
  cases h : xs.find? p with
  | none => exact absurd hp (by rw [List.find?_eq_none] at h; exact h x hx)
  | some y => exact ⟨y, List.mem_of_find?_eq_some h, List.find?_some h, rfl⟩
theorem nodup_map {α β : Type} {f : α → β} : ∀ {xs : List α}, (xs.map f).Nodup → ∀ {x y : α}, x ∈ xs → y ∈ xs → f x = f y → x = y
  | [], _, _, _, hx, _, _ => by cases hx
  | z :: zs, h, x, y, hx, hy, e => by
    simp only [List.map_cons, List.nodup_cons] at h
    rcases List.mem_cons.1 hx with rfl | hx' <;> rcases List.mem_cons.1 hy with rfl | hy'
    · rfl
    · exact absurd (by rw [e]; exact List.mem_map_of_mem hy') h.1
    · exact absurd (by rw [← e]; exact List.mem_map_of_mem hx') h.1
    · exact nodup_map h.2 hx' hy' e
theorem label_new (h : RightS b a ns cs cl) {t : ByteArray} (ht : t.size ≤ 100) (hlen : ns.length < 2000) (hnew : ∀ n ∈ ns, n.f0 ≠ t) (hroom : a + 16 ≤ (b.size : Int)) (k : Nat) :
    ideal_Label.f (k + 2) b a ns cs cl t = some (cut b a 16, b, a + 16, ns ++ [⟨t, cut b a 16⟩], cs, clashP (ns ++ [⟨t, cut b a 16⟩]) cs, 0) := by
  unfold ideal_Label.f
  rw [own_eq h.len]
  simp only [Option.bind_some]
  unfold ideal_Right.f
  rw [rightP_iff.2 h]
  simp only [Option.bind_some, if_pos]
  simp only [ideal_Label.j0]
  have h1 : decide ((t.size : Int) > 100) = false := by simp; omega
  rw [h1, if_neg (by simp)]
  unfold ideal_find_51.f
  rw [fnd_none (fun n hn => by simpa using hnew n hn)]
  simp only [Option.bind_some]
  rw [if_neg (by simp), if_neg (by omega), take_eq, takeP_ok h.tape (by omega) (by omega)]
  simp only [Option.bind_some]
  rw [if_pos trivial, own_eq h.len]
  simp only [Option.bind_some]
  rw [if_pos (by have := h.len.1; omega)]
  unfold ideal_clash.f
  simp only [Option.bind_some]
  rfl
theorem label_old (h : RightS b a ns cs cl) {t : ByteArray} (ht : t.size ≤ 100) {n : S72} (hn : n ∈ ns) (e : n.f0 = t) (k : Nat) :
    ideal_Label.f (k + 1) b a ns cs cl t = some (n.f1, b, a, ns, cs, cl, 0) := by
  unfold ideal_Label.f
  rw [own_eq h.len]
  simp only [Option.bind_some]
  unfold ideal_Right.f
  rw [rightP_iff.2 h]
  simp only [Option.bind_some, if_pos]
  simp only [ideal_Label.j0]
  have h1 : decide ((t.size : Int) > 100) = false := by simp; omega
  rw [h1, if_neg (by simp)]
  unfold ideal_find_51.f
  obtain ⟨y, hy, hp, hf⟩ := fnd_some (z := z72) (p := fun n => decide (n.f0 = t)) hn (by simpa using e)
  rw [hf]
  simp only [Option.bind_some]
  rw [if_pos trivial]
  have : y = n := nodup_map h.dn hy hn (by simp at hp; rw [hp, e])
  rw [this]
theorem seal_new (h : RightS b a ns cs cl) {l t : ByteArray} (hl : l.size = 16) (ht : t.size = 24) (hlen : cs.length < 2000) (hnew : ∀ c ∈ cs, ¬ (c.f0 = l ∧ c.f1 = t)) (hroom : a + 40 ≤ (b.size : Int)) (k : Nat) :
    ideal_Seal.f (k + 2) b a ns cs cl l t = some (cut b a 40, b, a + 40, ns, cs ++ [⟨l, t, cut b a 40⟩], clashP ns (cs ++ [⟨l, t, cut b a 40⟩]), 0) := by
  unfold ideal_Seal.f
  rw [own_eq h.len]
  simp only [Option.bind_some]
  unfold ideal_Right.f
  rw [rightP_iff.2 h]
  simp only [Option.bind_some, if_pos]
  rw [if_pos (by omega)]
  simp only [ideal_Seal.j0]
  have h1 : ((t.size : Int) != 24) = false := by simp; omega
  rw [h1, if_neg (by simp)]
  unfold ideal_find_66.f
  rw [fnd_none (fun n hn => by have := hnew n hn; by_cases e : n.f0 = l <;> simp_all)]
  simp only [Option.bind_some]
  rw [if_neg (by simp), if_neg (by omega), take_eq, takeP_ok h.tape (by omega) (by omega)]
  simp only [Option.bind_some]
  rw [if_pos trivial, own_eq h.len]
  simp only [Option.bind_some]
  rw [if_pos (by have := h.len.2; omega)]
  unfold ideal_clash.f
  simp only [Option.bind_some]
  rfl
theorem seal_old (h : RightS b a ns cs cl) {l t : ByteArray} (hl : l.size = 16) (ht : t.size = 24) {c : S74} (hc : c ∈ cs) (e1 : c.f0 = l) (e2 : c.f1 = t) (k : Nat) :
    ideal_Seal.f (k + 1) b a ns cs cl l t = some (c.f2, b, a, ns, cs, cl, 0) := by
  unfold ideal_Seal.f
  rw [own_eq h.len]
  simp only [Option.bind_some]
  unfold ideal_Right.f
  rw [rightP_iff.2 h]
  simp only [Option.bind_some, if_pos]
  rw [if_pos (by omega)]
  simp only [ideal_Seal.j0]
  have h1 : ((t.size : Int) != 24) = false := by simp; omega
  rw [h1, if_neg (by simp)]
  unfold ideal_find_66.f
  obtain ⟨y, hy, hp, hf⟩ := fnd_some (z := z74) (p := fun n => decide (n.f0 = l) && decide (n.f1 = t)) hc (by simp [e1, e2])
  rw [hf]
  simp only [Option.bind_some]
  rw [if_pos trivial]
  have : y = c := nodup_map h.dc hy hc (by simp at hp; simp [hp, e1, e2])
  rw [this]
theorem open_eq (h : RightS b a ns cs cl) (l x : ByteArray) : ideal_Open.f b a ns cs cl l x = some (match cs.find? (fun n => decide (n.f0 = l) && decide (n.f2 = x)) with | some c => (c.f1, 0) | none => (⟨#[]⟩, 11)) := by
  unfold ideal_Open.f
  unfold ideal_Right.f
  rw [rightP_iff.2 h]
  simp only [Option.bind_some, if_pos]
  unfold ideal_find_67.f fnd
  cases hf : cs.find? (fun n => decide (n.f0 = l) && decide (n.f2 = x)) with
  | none => simp
  | some y => simp
theorem new_eq (h : rightB b a = true) : ideal_New.f b a = some (b, a, [], [], false, 0) := by
  unfold ideal_New.f
  rw [right_eq, h]
  rfl
theorem new_right (h : rightB b a = true) : RightS b a [] [] false where
  tape := h
  len := by simp
  names := by simp
  cells := by simp
  dn := by simp
  dc := by simp
  clash := by rfl
end
end Go.Proofs.Ytmkncddbecmlpaa.Pr
end
section
set_option linter.unusedVariables false
namespace Go.Proofs.Ytmkncddbecmlpaa.Pr
open Go.RowKit Go.Proofs.YtmkncddbecmlpaaW.PrintWords Go.Proofs.YtmkncddbecmlpaaW.PrintLast Go.Proofs.YtmkncddbecmlpaaW.PrintMore
section
variable {b : ByteArray} {a : Int} {ns : List S72} {cs : List S74} {cl : Bool}
theorem same_l1 (hl : cs.length ≤ 2000) : ∀ (d i k : Nat), i + d = cs.length → d < k → r8_Same.l1 k i b a ns cs cl b a ns cs cl = some true := by
  intro d
  induction d with
  | zero =>
    intro i k h hk
    obtain ⟨k, rfl⟩ : ∃ m, k = m + 1 := ⟨k - 1, by omega⟩
    simp only [r8_Same.l1]
    rw [if_neg (by omega)]
  | succ d ih =>
    intro i k h hk
    obtain ⟨k, rfl⟩ : ∃ m, k = m + 1 := ⟨k - 1, by omega⟩
    simp only [r8_Same.l1]
    rw [if_pos (by omega), if_pos (by omega), if_pos (by omega), if_neg (by simp), show wrap64 ((i : Int) + 1) = ((i + 1 : Nat) : Int) from by unfold wrap64; omega]
    exact ih (i + 1) k (by omega) (by omega)
theorem same_l0 (hl : cs.length ≤ 2000) (hl2 : ns.length ≤ 2000) : ∀ (d i k : Nat), i + d = ns.length → d + cs.length + 1 < k → r8_Same.l0 k i b a ns cs cl b a ns cs cl = some true := by
  intro d
  induction d with
  | zero =>
    intro i k h hk
    obtain ⟨k, rfl⟩ : ∃ m, k = m + 1 := ⟨k - 1, by omega⟩
    simp only [r8_Same.l0]
    rw [if_neg (by omega)]
    exact same_l1 hl cs.length 0 k (by omega) (by omega)
  | succ d ih =>
    intro i k h hk
    obtain ⟨k, rfl⟩ : ∃ m, k = m + 1 := ⟨k - 1, by omega⟩
    simp only [r8_Same.l0]
    rw [if_pos (by omega), if_pos (by omega), if_pos (by omega), if_neg (by simp), show wrap64 ((i : Int) + 1) = ((i + 1 : Nat) : Int) from by unfold wrap64; omega]
    exact ih (i + 1) k (by omega) (by omega)
theorem same_refl (hl : ns.length ≤ 2000 ∧ cs.length ≤ 2000) {k : Nat} (hk : ns.length + cs.length + 2 < k) : r8_Same.f k b a ns cs cl b a ns cs cl = some true := by
  obtain ⟨k, rfl⟩ : ∃ m, k = m + 1 := ⟨k - 1, by omega⟩
  unfold r8_Same.f
  rw [if_neg (by simp), if_neg (by simp), if_pos rfl]
  simp only [r8_Same.j0]
  rw [if_neg (by simp)]
  exact same_l0 hl.2 hl.1 ns.length 0 k (by omega) (by omega)
theorem label_short (h : RightS b a ns cs cl) {t : ByteArray} (ht : t.size ≤ 100) (hlen : ns.length < 2000) (hnew : ∀ n ∈ ns, n.f0 ≠ t) (hroom : ¬ a + 16 ≤ (b.size : Int)) (k : Nat) :
    ideal_Label.f (k + 2) b a ns cs cl t = some (⟨#[]⟩, b, a, ns, cs, cl, 12) := by
  unfold ideal_Label.f
  rw [own_eq h.len]
  simp only [Option.bind_some]
  unfold ideal_Right.f
  rw [rightP_iff.2 h]
  simp only [Option.bind_some, if_pos]
  simp only [ideal_Label.j0]
  have h1 : decide ((t.size : Int) > 100) = false := by simp; omega
  rw [h1, if_neg (by simp)]
  unfold ideal_find_51.f
  rw [fnd_none (fun n hn => by simpa using hnew n hn)]
  simp only [Option.bind_some]
  rw [if_neg (by simp), if_neg (by omega), take_eq, takeP_short h.tape (by omega) (by omega)]
  simp only [Option.bind_some]
  rw [if_neg (by simp)]
theorem seal_short (h : RightS b a ns cs cl) {l t : ByteArray} (hl : l.size = 16) (ht : t.size = 24) (hlen : cs.length < 2000) (hnew : ∀ c ∈ cs, ¬ (c.f0 = l ∧ c.f1 = t)) (hroom : ¬ a + 40 ≤ (b.size : Int)) (k : Nat) :
    ideal_Seal.f (k + 2) b a ns cs cl l t = some (⟨#[]⟩, b, a, ns, cs, cl, 12) := by
  unfold ideal_Seal.f
  rw [own_eq h.len]
  simp only [Option.bind_some]
  unfold ideal_Right.f
  rw [rightP_iff.2 h]
  simp only [Option.bind_some, if_pos]
  rw [if_pos (by omega)]
  simp only [ideal_Seal.j0]
  have h1 : ((t.size : Int) != 24) = false := by simp; omega
  rw [h1, if_neg (by simp)]
  unfold ideal_find_66.f
  rw [fnd_none (fun n hn => by have := hnew n hn; by_cases e : n.f0 = l <;> simp_all)]
  simp only [Option.bind_some]
  rw [if_neg (by simp), if_neg (by omega), take_eq, takeP_short h.tape (by omega) (by omega)]
  simp only [Option.bind_some]
  rw [if_neg (by simp)]
theorem seal_odd (h : RightS b a ns cs cl) {l t : ByteArray} (ht : ¬ t.size = 24) (k : Nat) :
    ideal_Seal.f (k + 1) b a ns cs cl l t = some (⟨#[]⟩, b, a, ns, cs, cl, 1) := by
  unfold ideal_Seal.f
  rw [own_eq h.len]
  simp only [Option.bind_some]
  unfold ideal_Right.f
  rw [rightP_iff.2 h]
  simp only [Option.bind_some, if_pos]
  have h1 : ((t.size : Int) != 24) = true := by simp; omega
  rw [h1]
  simp only [ideal_Seal.j0, if_pos, ite_self]
end
def tape16 : ByteArray := ⟨#[97, 98, 99, 100, 101, 102, 103, 104, 105, 106, 107, 108, 109, 110, 111, 112]⟩
theorem awake8 (k : Nat) : u8_awake.f (k + 5) = some true := by
  have h0 : rightB tape16 0 = true := by rfl
  have hR := new_right h0
  have hx : ((⟨#[120]⟩ : ByteArray)).size ≤ 100 := by decide
  have hy : ((⟨#[121]⟩ : ByteArray)).size ≤ 100 := by decide
  have hroom : (0 : Int) + 16 ≤ (tape16.size : Int) := by decide
  have hc : cut tape16 0 16 = tape16 := by rfl
  have hR2 := hR.name hx (by simp) (by simp) hroom
  have hL := label_new hR hx (by simp) (by simp) hroom (k + 3)
  rw [hc] at hR2 hL
  unfold u8_awake.f
  show (ideal_New.f tape16 0).bind _ = _
  rw [new_eq h0]
  simp only [Option.bind_some]
  rw [hL]
  simp only [Option.bind_some]
  rw [label_old hR2 hx (List.mem_append_right _ (List.mem_singleton.2 rfl)) rfl]
  simp only [Option.bind_some]
  rw [label_short hR2 hy (by simp) (by simp) (by decide)]
  simp only [Option.bind_some]
  rw [open_eq hR]
  simp only [Option.bind_some]
  have hN : ideal_New.f (⟨#[]⟩ : ByteArray) 1 = some (⟨#[]⟩, 0, [], [], false, 1) := by rfl
  rw [hN]
  simp only [Option.bind_some]
  rw [if_pos trivial, if_pos (by rw [ByteArray.toList_eq]; rfl), if_pos trivial, if_pos trivial, if_pos trivial, same_refl hR2.len (by simp), Option.bind_some]
  simp only [List.find?_nil, if_pos]
  unfold ideal_Right.f
  rw [rightP_iff.2 hR2]
  rfl
theorem pick8 {a n : Int} (hw : (Lit.int .i64 a).wf = true) (hn : 0 < n) : ∃ r, u8_pick.f a n = some r ∧ 0 ≤ r ∧ r < n := by
  unfold u8_pick.f
  have hr : -9223372036854775808 ≤ a ∧ a ≤ 9223372036854775807 := bounds_i64 hw
  by_cases h : a < 0
  · have e1 : wrap64 (a + 1) = a + 1 := by unfold wrap64; omega
    have e2 : wrap64 (-(a + 1)) = -(a + 1) := by unfold wrap64; omega
    rw [if_pos h, if_neg (by omega), e1, e2, Int.tmod_eq_emod_of_nonneg (by omega)]
    exact ⟨_, rfl, Int.emod_nonneg _ (by omega), Int.emod_lt_of_pos _ hn⟩
  · rw [if_neg h, if_neg (by omega), Int.tmod_eq_emod_of_nonneg (by omega)]
    exact ⟨_, rfl, Int.emod_nonneg _ (by omega), Int.emod_lt_of_pos _ hn⟩
theorem rd_wf {xs : List Int} (h : ∀ x ∈ xs, (Lit.int .i64 x).wf = true) {i : Int} (h0 : 0 ≤ i) (h1 : i < xs.length) : (Lit.int .i64 (rd xs i)).wf = true := by
  unfold rd
  have hi : i.toNat < xs.length := by omega
  have : xs.getD i.toNat 0 = xs[i.toNat] := by simp [hi]
  first
  | (rw [this]; exact h _ (List.getElem_mem hi))
  | (simp [hi]; exact h _ (List.getElem_mem hi))
theorem draws8 {x0 : List Int} (hw : ∀ x ∈ x0, (Lit.int .i64 x).wf = true) (hx : x0.length ≤ maxLen) (x1 : Bool) : ∀ (d : Nat) (x5 : List Int) (k : Nat), x5.length + d = 2000 → 2 * d < k → ∃ b, u8_Draws.l0 k x0 x1 x5 x5.length = some (b, 0) ∧ b.size = 2000 := by
  intro d
  induction d with
  | zero =>
    intro x5 k h hk
    obtain ⟨k, rfl⟩ : ∃ m, k = m + 1 := ⟨k - 1, by omega⟩
    simp only [u8_Draws.l0]
    rw [if_neg (by omega)]
    exact ⟨_, rfl, by rw [strOfNums_size]; omega⟩
  | succ d ih =>
    intro x5 k h hk
    obtain ⟨k, rfl⟩ : ∃ m, k = m + 1 + 1 := ⟨k - 2, by omega⟩
    have hnext : ∀ v, ∃ b, u8_Draws.l0 k x0 x1 (x5 ++ [v]) (wrap64 ((x5.length : Int) + 1)) = some (b, 0) ∧ b.size = 2000 := fun v => by
      rw [show wrap64 ((x5.length : Int) + 1) = (((x5 ++ [v]).length : Nat) : Int) from by simp; unfold wrap64; omega]
      exact ih (x5 ++ [v]) k (by simp; omega) (by omega)
    have hj : ∀ x7, ∃ b, u8_Draws.j1 (k + 1) x0 x1 x5 x5.length x7 = some (b, 0) ∧ b.size = 2000 := fun x7 => by
      simp only [u8_Draws.j1]
      have hl : x5.length < 140737488355328 := by omega
      have e8 : wrap64 (Int.tdiv (x5.length : Int) 8) = (x5.length : Int) / 8 := by rw [Int.tdiv_eq_ediv_of_nonneg (by omega)]; unfold wrap64; omega
      cases x1
      · rw [if_neg (by simp), if_pos hl]
        exact hnext _
      · rw [if_pos rfl]
        by_cases h8 : Int.tmod (x5.length : Int) 8 = 0
        · rw [if_pos h8]
          by_cases hp : (x0.length : Int) > 0
          · have hm0 : 0 ≤ Int.tmod (wrap64 (Int.tdiv (x5.length : Int) 8)) (x0.length : Int) := by rw [e8]; exact Int.tmod_nonneg _ (by omega)
            have hm1 : Int.tmod (wrap64 (Int.tdiv (x5.length : Int) 8)) (x0.length : Int) < (x0.length : Int) := by rw [e8]; exact Int.tmod_lt_of_pos _ hp
            rw [if_pos hp, if_neg (by omega), if_pos hm0, if_pos hm1]
            obtain ⟨r, hr, _⟩ := pick8 (rd_wf hw hm0 hm1) (n := 3) (by omega)
            rw [hr]
            simp only [Option.bind_some]
            rw [if_pos hl]
            exact hnext _
          · rw [if_neg hp, if_pos hl]
            exact hnext _
        · rw [if_neg h8, if_pos hl]
          exact hnext _
    simp only [u8_Draws.l0]
    rw [if_pos (by omega)]
    by_cases hp : (x0.length : Int) > 0
    · have hm0 : 0 ≤ Int.tmod (x5.length : Int) (x0.length : Int) := Int.tmod_nonneg _ (by omega)
      have hm1 : Int.tmod (x5.length : Int) (x0.length : Int) < (x0.length : Int) := Int.tmod_lt_of_pos _ hp
      rw [if_pos hp, if_neg (by omega), if_pos hm0, if_pos hm1]
      obtain ⟨r, hr, _⟩ := pick8 (rd_wf hw hm0 hm1) (n := 256) (by omega)
      rw [hr]
      simp only [Option.bind_some]
      exact hj _
    · rw [if_neg hp]
      exact hj _
theorem draws_eq {x0 : List Int} (hw : ∀ x ∈ x0, (Lit.int .i64 x).wf = true) (hx : x0.length ≤ maxLen) (x1 : Bool) {k : Nat} (hk : 4000 < k) : ∃ b, u8_Draws.f k x0 x1 = some (b, 0) ∧ b.size = 2000 :=
  draws8 hw hx x1 2000 [] k rfl (by omega)
theorem sn_append (xs ys : List Int) : strOfNums xs ++ strOfNums ys = strOfNums (xs ++ ys) := by
  apply ByteArray.ext
  simp [strOfNums, ByteArray.data_append]
theorem label8 {a : Int} (hw : (Lit.int .i64 a).wf = true) : ∃ r, u8_pick.f a 4 = some r ∧ 0 ≤ r ∧ r < 4 ∧ u8_Label.f a = some (strOfNums ([108, r] ++ List.replicate 14 0)) := by
  obtain ⟨r, hr, h0, h1⟩ := pick8 hw (n := 4) (by omega)
  refine ⟨r, hr, h0, h1, ?_⟩
  unfold u8_Label.f
  rw [hr]
  simp only [Option.bind_some]
  rw [if_pos (by decide), if_pos (by rw [strOfNums_size, strOfNums_size]; simp), sn_append, show r % 256 = r from by omega]
theorem text8 {a : Int} (hw : (Lit.int .i64 a).wf = true) : ∃ r, u8_pick.f a 5 = some r ∧ 0 ≤ r ∧ r < 5 ∧ u8_Text.f a = some (strOfNums ([r] ++ List.replicate 23 0)) := by
  obtain ⟨r, hr, h0, h1⟩ := pick8 hw (n := 5) (by omega)
  refine ⟨r, hr, h0, h1, ?_⟩
  unfold u8_Text.f
  rw [hr]
  simp only [Option.bind_some]
  rw [if_pos (by decide), if_pos (by rw [strOfNums_size, strOfNums_size]; simp), sn_append, show r % 256 = r from by omega]
end Go.Proofs.Ytmkncddbecmlpaa.Pr
end
section
set_option linter.unusedVariables false
namespace Go.Proofs.Ytmkncddbecmlpaa.Pr
open Go.RowKit Go.Proofs.YtmkncddbecmlpaaW.PrintWords Go.Proofs.YtmkncddbecmlpaaW.PrintLast Go.Proofs.YtmkncddbecmlpaaW.PrintMore
structure Inv8 (i : Nat) (b : ByteArray) (a : Int) (ns : List S72) (cs : List S74) (cl : Bool) : Prop where
  right : RightS b a ns cs cl
  size : b.size = 2000
  taken : a = 16 * (ns.length : Int) + 40 * (cs.length : Int)
  many : ns.length + cs.length ≤ i
theorem Inv8.start {b : ByteArray} (hb : b.size = 2000) : Inv8 0 b 0 [] [] false :=
  ⟨new_right (rightB_iff.2 ⟨by omega, by omega, by omega⟩), hb, by simp, by simp⟩
section
variable {i : Nat} {b : ByteArray} {a : Int} {ns : List S72} {cs : List S74} {cl : Bool}
theorem Inv8.more (h : Inv8 i b a ns cs cl) {j : Nat} (hj : i ≤ j) : Inv8 j b a ns cs cl := ⟨h.right, h.size, h.taken, by have := h.many; omega⟩
theorem label_step (h : Inv8 i b a ns cs cl) (hi : i < 15) {t : ByteArray} (ht : t.size ≤ 100) :
    ∃ s a' ns' cl', (∀ k, ideal_Label.f (k + 2) b a ns cs cl t = some (s, b, a', ns', cs, cl', 0)) ∧ Inv8 (i + 1) b a' ns' cs cl' ∧ (⟨t, s⟩ : S72) ∈ ns' ∧ (∀ n ∈ ns, n ∈ ns') ∧ (∀ n ∈ ns', n ∈ ns ∨ n = ⟨t, s⟩) := by
  have hm := h.many
  have hs := h.size
  have htk := h.taken
  by_cases he : ∃ n ∈ ns, n.f0 = t
  · obtain ⟨n, hn, e⟩ := he
    exact ⟨n.f1, a, ns, cl, fun k => label_old h.right ht hn e (k + 1), h.more (by omega), by subst e; exact hn, fun _ h => h, fun _ h => .inl h⟩
  · have hnew : ∀ n ∈ ns, n.f0 ≠ t := fun n hn e => he ⟨n, hn, e⟩
    have hroom : a + 16 ≤ (b.size : Int) := by omega
    refine ⟨_, _, _, _, fun k => label_new h.right ht (by omega) hnew hroom k, ⟨h.right.name ht (by omega) hnew hroom, hs, by simp; omega, by simp; omega⟩, List.mem_append_right _ (List.mem_singleton.2 rfl), fun n hn => List.mem_append_left _ hn, fun n hn => ?_⟩
    rcases List.mem_append.1 hn with hn | hn
    · exact .inl hn
    · exact .inr (List.mem_singleton.1 hn)
theorem seal_step (h : Inv8 i b a ns cs cl) (hi : i < 15) {l t : ByteArray} (hl : l.size = 16) (ht : t.size = 24) :
    ∃ s a' cs' cl', (∀ k, ideal_Seal.f (k + 2) b a ns cs cl l t = some (s, b, a', ns, cs', cl', 0)) ∧ Inv8 (i + 1) b a' ns cs' cl' ∧ (⟨l, t, s⟩ : S74) ∈ cs' ∧ (∀ c ∈ cs, c ∈ cs') ∧ (∀ c ∈ cs', c ∈ cs ∨ c = ⟨l, t, s⟩) := by
  have hm := h.many
  have hs := h.size
  have htk := h.taken
  by_cases he : ∃ c ∈ cs, c.f0 = l ∧ c.f1 = t
  · obtain ⟨c, hc, e1, e2⟩ := he
    exact ⟨c.f2, a, cs, cl, fun k => seal_old h.right hl ht hc e1 e2 (k + 1), h.more (by omega), by subst e1; subst e2; exact hc, fun _ h => h, fun _ h => .inl h⟩
  · have hnew : ∀ c ∈ cs, ¬ (c.f0 = l ∧ c.f1 = t) := fun c hc e => he ⟨c, hc, e⟩
    have hroom : a + 40 ≤ (b.size : Int) := by omega
    refine ⟨_, _, _, _, fun k => seal_new h.right hl ht (by omega) hnew hroom k, ⟨h.right.cell hl ht (by omega) hnew hroom, hs, by simp; omega, by simp; omega⟩, List.mem_append_right _ (List.mem_singleton.2 rfl), fun n hn => List.mem_append_left _ hn, fun n hn => ?_⟩
    rcases List.mem_append.1 hn with hn | hn
    · exact .inl hn
    · exact .inr (List.mem_singleton.1 hn)
end
theorem tl_eq (x y : ByteArray) : x.toList = y.toList ↔ x = y := by
  have := str_eq x y
  by_cases h : x = y
  · simp [h]
  · simp only [h, decide_false, beq_eq_false_iff_ne] at this
    simp [h, this]
def memB {κ : Type} [DecidableEq κ] (x : κ) (l : List κ) : Bool := decide (x ∈ l)
theorem memB_snoc {κ : Type} [DecidableEq κ] (x y : κ) (l : List κ) : memB x (l ++ [y]) = (memB x l || decide (x = y)) := by simp [memB]
theorem dup_snoc {κ : Type} [DecidableEq κ] (l : List κ) (x : κ) : dup (l ++ [x]) = (dup l || memB x l) := by
  unfold dup memB
  have : (l ++ [x]).Nodup ↔ l.Nodup ∧ x ∉ l := by
    rw [List.nodup_append]
    constructor
    · rintro ⟨h1, _, h2⟩
      exact ⟨h1, fun hx => h2 x hx x (by simp) rfl⟩
    · rintro ⟨h1, h2⟩
      exact ⟨h1, by simp, fun y hy z hz => by simp at hz; subst hz; rintro rfl; exact h2 hy⟩
  by_cases h1 : l.Nodup <;> by_cases h2 : x ∈ l <;> simp [this, h1, h2]
theorem take_snoc {α : Type} {l : List α} {j : Nat} (h : j < l.length) : l.take (j + 1) = l.take j ++ [l[j]] := by
  rw [List.take_add_one]
  simp [h]
end Go.Proofs.Ytmkncddbecmlpaa.Pr
end
section
set_option linter.unusedVariables false
namespace Go.Proofs.Ytmkncddbecmlpaa.Pr
open Go.RowKit Go.Proofs.YtmkncddbecmlpaaW.PrintWords Go.Proofs.YtmkncddbecmlpaaW.PrintLast Go.Proofs.YtmkncddbecmlpaaW.PrintMore
theorem memB_take {κ α : Type} [DecidableEq κ] {f : α → κ} {l : List α} {i j : Nat} (hj : j < i) (hl : j < l.length) : memB (f l[j]) ((l.take i).map f) = true := by
  unfold memB
  simp only [decide_eq_true_eq]
  refine List.mem_map_of_mem ?_
  rw [List.mem_take_iff_getElem]
  exact ⟨j, by omega, rfl⟩
theorem dup_take {κ α : Type} [DecidableEq κ] {f : α → κ} {l : List α} (i : Nat) (h : dup ((l.take i).map f) = true) : dup (l.map f) = true := by
  cases h2 : dup (l.map f)
  · have h3 := (dup_iff _).1 h2
    have : ((l.take i).map f).Nodup := by
      rw [List.map_take]
      exact h3.sublist (List.take_sublist i _)
    rw [(dup_iff _).2 this] at h
    cases h
  · rfl
theorem dup_step {κ α : Type} [DecidableEq κ] {f : α → κ} {l : List α} {i : Nat} (hi : i < l.length) (h : dup ((l.take i).map f) = false) : dup ((l.take (i + 1)).map f) = memB (f l[i]) ((l.take i).map f) := by
  rw [take_snoc hi, List.map_append, List.map_cons, List.map_nil, dup_snoc, h, Bool.false_or]
section
variable {b : ByteArray} {a : Int} {ns : List S72} {cs : List S74} {cl : Bool}
theorem rclash_l1 (hl : ns.length ≤ 20) {i : Nat} (hi : i < ns.length) : ∀ (d j k : Nat), j + d = i → d < k → memB ns[i].f1 ((ns.take j).map fun n : S72 => n.f1) = false →
    r8_clash.l1 k i j b a ns cs cl = if memB ns[i].f1 ((ns.take i).map fun n : S72 => n.f1) = true then some true else r8_clash.l0 (k - d - 1) ((i + 1 : Nat) : Int) b a ns cs cl := by
  intro d
  induction d with
  | zero =>
    intro j k h hk hm
    obtain ⟨k, rfl⟩ : ∃ m, k = m + 1 := ⟨k - 1, by omega⟩
    obtain rfl : j = i := by omega
    simp only [r8_clash.l1]
    rw [if_neg (by omega), if_neg (by rw [hm]; simp), show wrap64 ((j : Int) + 1) = ((j + 1 : Nat) : Int) from by unfold wrap64; omega]
    rfl
  | succ d ih =>
    intro j k h hk hm
    obtain ⟨k, rfl⟩ : ∃ m, k = m + 1 := ⟨k - 1, by omega⟩
    have hj : j < ns.length := by omega
    simp only [r8_clash.l1]
    rw [if_pos (show (j : Int) < (i : Int) by omega), if_pos (show (0 : Int) ≤ i by omega), if_pos (show (i : Int) < (ns.length : Int) by omega), if_pos (show (0 : Int) ≤ j by omega), if_pos (show (j : Int) < (ns.length : Int) by omega), rd72_get hi, rd72_get hj, show wrap64 ((j : Int) + 1) = ((j + 1 : Nat) : Int) from by unfold wrap64; omega]
    by_cases he : ns[i].f1 = ns[j].f1
    · rw [if_pos ((tl_eq _ _).2 he), if_pos (by rw [he]; exact memB_take (f := fun n : S72 => n.f1) (by omega) hj)]
    · rw [if_neg (fun e => he ((tl_eq _ _).1 e)), ih (j + 1) k (by omega) (by omega) (by rw [take_snoc hj, List.map_append, List.map_cons, List.map_nil, memB_snoc, hm]; simpa using he), show k + 1 - (d + 1) - 1 = k - d - 1 from by omega]
theorem rclash_l3 (hl : cs.length ≤ 20) {i : Nat} (hi : i < cs.length) : ∀ (d j k : Nat), j + d = i → d < k → memB (cs[i].f0, cs[i].f2) ((cs.take j).map fun c : S74 => (c.f0, c.f2)) = false →
    r8_clash.l3 k i j b a ns cs cl = if memB (cs[i].f0, cs[i].f2) ((cs.take i).map fun c : S74 => (c.f0, c.f2)) = true then some true else r8_clash.l2 (k - d - 1) ((i + 1 : Nat) : Int) b a ns cs cl := by
  intro d
  induction d with
  | zero =>
    intro j k h hk hm
    obtain ⟨k, rfl⟩ : ∃ m, k = m + 1 := ⟨k - 1, by omega⟩
    obtain rfl : j = i := by omega
    simp only [r8_clash.l3]
    rw [if_neg (by omega), if_neg (by rw [hm]; simp), show wrap64 ((j : Int) + 1) = ((j + 1 : Nat) : Int) from by unfold wrap64; omega]
    rfl
  | succ d ih =>
    intro j k h hk hm
    obtain ⟨k, rfl⟩ : ∃ m, k = m + 1 := ⟨k - 1, by omega⟩
    have hj : j < cs.length := by omega
    have ih := ih (j + 1) k (by omega) (by omega)
    simp only [r8_clash.l3]
    rw [if_pos (show (j : Int) < (i : Int) by omega), if_pos (show (0 : Int) ≤ i by omega), if_pos (show (i : Int) < (cs.length : Int) by omega), if_pos (show (0 : Int) ≤ j by omega), if_pos (show (j : Int) < (cs.length : Int) by omega), rd74_get hi, rd74_get hj, show wrap64 ((j : Int) + 1) = ((j + 1 : Nat) : Int) from by unfold wrap64; omega]
    rw [take_snoc hj, List.map_append, List.map_cons, List.map_nil, memB_snoc, hm, Bool.false_or] at ih
    rw [show k + 1 - (d + 1) - 1 = k - d - 1 from by omega]
    simp only [tl_eq]
    by_cases h0 : cs[i].f0 = cs[j].f0
    · rw [if_pos h0]
      by_cases h2 : cs[i].f2 = cs[j].f2
      · rw [if_pos h2, if_pos (by have := memB_take (f := fun c : S74 => (c.f0, c.f2)) (show j < i by omega) hj; simpa [h0, h2] using this)]
      · rw [if_neg h2, ih (by simp [h2])]
    · rw [if_neg h0, ih (by simp [h0])]
theorem rclash_l2 (hl : cs.length ≤ 20) : ∀ (d i k : Nat), i + d = cs.length → 30 * d < k → dup ((cs.take i).map fun c : S74 => (c.f0, c.f2)) = false →
    r8_clash.l2 k i b a ns cs cl = some (dup (cs.map fun c : S74 => (c.f0, c.f2))) := by
  intro d
  induction d with
  | zero =>
    intro i k h hk hm
    obtain ⟨k, rfl⟩ : ∃ m, k = m + 1 := ⟨k - 1, by omega⟩
    simp only [r8_clash.l2]
    rw [if_neg (by omega)]
    rw [show cs.take i = cs from List.take_of_length_le (by omega)] at hm
    rw [hm]
  | succ d ih =>
    intro i k h hk hm
    obtain ⟨k, rfl⟩ : ∃ m, k = m + 1 := ⟨k - 1, by omega⟩
    have hi : i < cs.length := by omega
    simp only [r8_clash.l2]
    have h3 := rclash_l3 (b := b) (a := a) (ns := ns) (cl := cl) hl hi i 0 k (by omega) (by omega) (by simp [memB])
    have hd := dup_step (f := fun c : S74 => (c.f0, c.f2)) hi hm
    rw [if_pos (by omega)]
    refine h3.trans ?_
    by_cases hb : memB (cs[i].f0, cs[i].f2) ((cs.take i).map fun c : S74 => (c.f0, c.f2)) = true
    · rw [if_pos hb, dup_take (i + 1) (by rw [hd]; exact hb)]
    · rw [if_neg hb]
      exact ih (i + 1) _ (by omega) (by omega) (by rw [hd]; simpa using hb)
theorem rclash_l0 (hl : ns.length ≤ 20) (hl2 : cs.length ≤ 20) : ∀ (d i k : Nat), i + d = ns.length → 30 * d + 700 < k → dup ((ns.take i).map fun n : S72 => n.f1) = false →
    r8_clash.l0 k i b a ns cs cl = some (clashP ns cs) := by
  intro d
  induction d with
  | zero =>
    intro i k h hk hm
    obtain ⟨k, rfl⟩ : ∃ m, k = m + 1 := ⟨k - 1, by omega⟩
    simp only [r8_clash.l0]
    rw [if_neg (by omega)]
    rw [show ns.take i = ns from List.take_of_length_le (by omega)] at hm
    unfold clashP
    rw [hm, Bool.false_or]
    exact rclash_l2 hl2 cs.length 0 k (by omega) (by omega) rfl
  | succ d ih =>
    intro i k h hk hm
    obtain ⟨k, rfl⟩ : ∃ m, k = m + 1 := ⟨k - 1, by omega⟩
    have hi : i < ns.length := by omega
    simp only [r8_clash.l0]
    have h3 := rclash_l1 (b := b) (a := a) (cs := cs) (cl := cl) hl hi i 0 k (by omega) (by omega) (by simp [memB])
    have hd := dup_step (f := fun n : S72 => n.f1) hi hm
    rw [if_pos (by omega)]
    refine h3.trans ?_
    by_cases hb : memB ns[i].f1 ((ns.take i).map fun n : S72 => n.f1) = true
    · rw [if_pos hb]
      unfold clashP
      rw [dup_take (i + 1) (by rw [hd]; exact hb), Bool.true_or]
    · rw [if_neg hb]
      exact ih (i + 1) _ (by omega) (by omega) (by rw [hd]; simpa using hb)
theorem rclash_eq (hl : ns.length ≤ 20) (hl2 : cs.length ≤ 20) {k : Nat} (hk : 1300 < k) : r8_clash.f k b a ns cs cl = some (clashP ns cs) :=
  rclash_l0 hl hl2 ns.length 0 k (by omega) (by omega) rfl
theorem rright_l1 (hl : ns.length ≤ 20) {i : Nat} (hi : i < ns.length) : ∀ (d j k : Nat), j + d = i → d < k → memB ns[i].f0 ((ns.take j).map fun n : S72 => n.f0) = false →
    r8_Right.l1 k i j b a ns cs cl = if memB ns[i].f0 ((ns.take i).map fun n : S72 => n.f0) = true then some false else r8_Right.l0 (k - d - 1) ((i + 1 : Nat) : Int) b a ns cs cl := by
  intro d
  induction d with
  | zero =>
    intro j k h hk hm
    obtain ⟨k, rfl⟩ : ∃ m, k = m + 1 := ⟨k - 1, by omega⟩
    obtain rfl : j = i := by omega
    simp only [r8_Right.l1]
    rw [if_neg (by omega), if_neg (by rw [hm]; simp), show wrap64 ((j : Int) + 1) = ((j + 1 : Nat) : Int) from by unfold wrap64; omega]
    rfl
  | succ d ih =>
    intro j k h hk hm
    obtain ⟨k, rfl⟩ : ∃ m, k = m + 1 := ⟨k - 1, by omega⟩
    have hj : j < ns.length := by omega
    simp only [r8_Right.l1]
    rw [if_pos (show (j : Int) < (i : Int) by omega), if_pos (show (0 : Int) ≤ i by omega), if_pos (show (i : Int) < (ns.length : Int) by omega), if_pos (show (0 : Int) ≤ j by omega), if_pos (show (j : Int) < (ns.length : Int) by omega), rd72_get hi, rd72_get hj, show wrap64 ((j : Int) + 1) = ((j + 1 : Nat) : Int) from by unfold wrap64; omega]
    by_cases he : ns[i].f0 = ns[j].f0
    · rw [if_pos ((tl_eq _ _).2 he), if_pos (by rw [he]; exact memB_take (f := fun n : S72 => n.f0) (by omega) hj)]
    · rw [if_neg (fun e => he ((tl_eq _ _).1 e)), ih (j + 1) k (by omega) (by omega) (by rw [take_snoc hj, List.map_append, List.map_cons, List.map_nil, memB_snoc, hm]; simpa using he), show k + 1 - (d + 1) - 1 = k - d - 1 from by omega]
theorem rright_l3 (hl : cs.length ≤ 20) {i : Nat} (hi : i < cs.length) : ∀ (d j k : Nat), j + d = i → d < k → memB (cs[i].f0, cs[i].f1) ((cs.take j).map fun c : S74 => (c.f0, c.f1)) = false →
    r8_Right.l3 k i j b a ns cs cl cs[i].f0 cs[i].f1 cs[i].f2 = if memB (cs[i].f0, cs[i].f1) ((cs.take i).map fun c : S74 => (c.f0, c.f1)) = true then some false else r8_Right.l2 (k - d - 1) ((i + 1 : Nat) : Int) b a ns cs cl := by
  intro d
  induction d with
  | zero =>
    intro j k h hk hm
    obtain ⟨k, rfl⟩ : ∃ m, k = m + 1 := ⟨k - 1, by omega⟩
    obtain rfl : j = i := by omega
    simp only [r8_Right.l3]
    rw [if_neg (by omega), if_neg (by rw [hm]; simp), show wrap64 ((j : Int) + 1) = ((j + 1 : Nat) : Int) from by unfold wrap64; omega]
    rfl
  | succ d ih =>
    intro j k h hk hm
    obtain ⟨k, rfl⟩ : ∃ m, k = m + 1 := ⟨k - 1, by omega⟩
    have hj : j < cs.length := by omega
    have ih := ih (j + 1) k (by omega) (by omega)
    simp only [r8_Right.l3]
    rw [if_pos (show (j : Int) < (i : Int) by omega), if_pos (show (0 : Int) ≤ j by omega), if_pos (show (j : Int) < (cs.length : Int) by omega), rd74_get hj, show wrap64 ((j : Int) + 1) = ((j + 1 : Nat) : Int) from by unfold wrap64; omega]
    rw [take_snoc hj, List.map_append, List.map_cons, List.map_nil, memB_snoc, hm, Bool.false_or] at ih
    rw [show k + 1 - (d + 1) - 1 = k - d - 1 from by omega]
    simp only [tl_eq]
    by_cases h0 : cs[i].f0 = cs[j].f0
    · rw [if_pos h0]
      by_cases h2 : cs[i].f1 = cs[j].f1
      · rw [if_pos h2, if_pos (by have := memB_take (f := fun c : S74 => (c.f0, c.f1)) (show j < i by omega) hj; simpa [h0, h2] using this)]
      · rw [if_neg h2, ih (by simp [h2])]
    · rw [if_neg h0, ih (by simp [h0])]
theorem any_take {α : Type} {p : α → Bool} {l : List α} {i : Nat} (hi : i < l.length) (h : p l[i] = true) : l.any p = true := List.any_eq_true.2 ⟨_, List.getElem_mem hi, h⟩
theorem any_step {α : Type} {p : α → Bool} {l : List α} {i : Nat} (hi : i < l.length) (h : (l.take i).any p = false) (h2 : p l[i] = false) : (l.take (i + 1)).any p = false := by
  rw [take_snoc hi, List.any_append, h]
  simp [h2]
theorem rright_l2 (hl : cs.length ≤ 20) (hl2 : ns.length ≤ 20) : ∀ (d i k : Nat), i + d = cs.length → 40 * d + 1400 < k → (cs.take i).any oddCell = false → dup ((cs.take i).map fun c : S74 => (c.f0, c.f1)) = false →
    r8_Right.l2 k i b a ns cs cl = some (!(cs.any oddCell) && !(dup (cs.map fun c : S74 => (c.f0, c.f1))) && (cl == clashP ns cs)) := by
  intro d
  induction d with
  | zero =>
    intro i k h hk ho hm
    obtain ⟨k, rfl⟩ : ∃ m, k = m + 1 := ⟨k - 1, by omega⟩
    simp only [r8_Right.l2]
    rw [if_neg (by omega), rclash_eq hl2 hl (by omega), Option.bind_some]
    rw [show cs.take i = cs from List.take_of_length_le (by omega)] at hm ho
    rw [hm, ho]
    simp
  | succ d ih =>
    intro i k h hk ho hm
    obtain ⟨k, rfl⟩ : ∃ m, k = m + 1 + 1 := ⟨k - 2, by omega⟩
    have hi : i < cs.length := by omega
    have odd : oddCell cs[i] = true → r8_Right.j5 (k + 1) i true b a ns cs cl cs[i].f0 cs[i].f1 cs[i].f2 = some (!(cs.any oddCell) && !(dup (cs.map fun c : S74 => (c.f0, c.f1))) && (cl == clashP ns cs)) := fun hx => by
      simp only [r8_Right.j5, if_pos]
      rw [any_take hi hx]
      simp
    simp only [r8_Right.l2]
    rw [if_pos (by omega), if_pos (by omega), rd74_get hi]
    by_cases h0 : (cs[i].f0.size : Int) = 16
    · rw [if_pos h0]
      by_cases h1 : (cs[i].f1.size : Int) = 24
      · rw [if_pos h1]
        by_cases h2 : (cs[i].f2.size : Int) = 40
        · rw [show ((cs[i].f2.size : Int) != 40) = false from by simp [h2]]
          simp only [r8_Right.j5]
          have h3 := rright_l3 (b := b) (a := a) (ns := ns) (cl := cl) hl hi i 0 k (by omega) (by omega) (by simp [memB])
          have hd := dup_step (f := fun c : S74 => (c.f0, c.f1)) hi hm
          rw [if_neg (by simp)]
          refine h3.trans ?_
          by_cases hb : memB (cs[i].f0, cs[i].f1) ((cs.take i).map fun c : S74 => (c.f0, c.f1)) = true
          · rw [if_pos hb, dup_take (i + 1) (by rw [hd]; exact hb)]
            simp
          · rw [if_neg hb]
            exact ih (i + 1) _ (by omega) (by omega) (any_step hi ho ((oddCell_iff _).2 ⟨by omega, by omega, by omega⟩)) (by rw [hd]; simpa using hb)
        · rw [show ((cs[i].f2.size : Int) != 40) = true from by simp [h2]]
          exact odd (by unfold oddCell; simp [h2])
      · rw [if_neg h1]
        exact odd (by unfold oddCell; simp [h1])
    · rw [if_neg h0]
      exact odd (by unfold oddCell; simp [h0])
theorem rright_l0 (hl : cs.length ≤ 20) (hl2 : ns.length ≤ 20) : ∀ (d i k : Nat), i + d = ns.length → 40 * d + 2300 < k → (ns.take i).any oddName = false → dup ((ns.take i).map fun n : S72 => n.f0) = false →
    r8_Right.l0 k i b a ns cs cl = some (!(ns.any oddName) && !(dup (ns.map fun n : S72 => n.f0)) && (!(cs.any oddCell) && !(dup (cs.map fun c : S74 => (c.f0, c.f1))) && (cl == clashP ns cs))) := by
  intro d
  induction d with
  | zero =>
    intro i k h hk ho hm
    obtain ⟨k, rfl⟩ : ∃ m, k = m + 1 := ⟨k - 1, by omega⟩
    simp only [r8_Right.l0]
    rw [if_neg (by omega)]
    rw [show ns.take i = ns from List.take_of_length_le (by omega)] at hm ho
    rw [hm, ho]
    exact rright_l2 hl hl2 cs.length 0 k (by omega) (by omega) rfl rfl
  | succ d ih =>
    intro i k h hk ho hm
    obtain ⟨k, rfl⟩ : ∃ m, k = m + 1 + 1 := ⟨k - 2, by omega⟩
    have hi : i < ns.length := by omega
    simp only [r8_Right.l0]
    rw [if_pos (by omega), if_pos (by omega), rd72_get hi]
    have odd : oddName ns[i] = true → r8_Right.j2 (k + 1) i true b a ns cs cl = some (!(ns.any oddName) && !(dup (ns.map fun n : S72 => n.f0)) && (!(cs.any oddCell) && !(dup (cs.map fun c : S74 => (c.f0, c.f1))) && (cl == clashP ns cs))) := fun hx => by
      simp only [r8_Right.j2, if_pos]
      rw [any_take hi hx]
      simp
    by_cases h0 : (ns[i].f0.size : Int) > 100
    · rw [if_pos h0]
      exact odd (by unfold oddName; simp; omega)
    · rw [if_neg h0]
      by_cases h1 : (ns[i].f1.size : Int) = 16
      · rw [show ((ns[i].f1.size : Int) != 16) = false from by simp [h1]]
        simp only [r8_Right.j2]
        have h3 := rright_l1 (b := b) (a := a) (cs := cs) (cl := cl) hl2 hi i 0 k (by omega) (by omega) (by simp [memB])
        have hd := dup_step (f := fun n : S72 => n.f0) hi hm
        rw [if_neg (by simp)]
        refine h3.trans ?_
        by_cases hb : memB ns[i].f0 ((ns.take i).map fun n : S72 => n.f0) = true
        · rw [if_pos hb, dup_take (i + 1) (by rw [hd]; exact hb)]
          simp
        · rw [if_neg hb]
          exact ih (i + 1) _ (by omega) (by omega) (any_step hi ho ((oddName_iff _).2 ⟨by omega, by omega⟩)) (by rw [hd]; simpa using hb)
      · rw [show ((ns[i].f1.size : Int) != 16) = true from by simp [h1]]
        exact odd (by unfold oddName; simp [h1])
theorem rright8_eq (hl2 : ns.length ≤ 20) (hl : cs.length ≤ 20) {k : Nat} (hk : 3200 < k) : r8_Right.f k b a ns cs cl = some (rightP b a ns cs cl) := by
  obtain ⟨k, rfl⟩ : ∃ m, k = m + 1 := ⟨k - 1, by omega⟩
  unfold r8_Right.f
  rw [rright_eq, Option.bind_some]
  unfold rightP
  rw [tapeP_eq, show decide (ns.length ≤ 2000 ∧ cs.length ≤ 2000) = true from decide_eq_true ⟨by omega, by omega⟩]
  cases hr : rightB b a
  · rw [if_neg (by simp)]
    simp only [r8_Right.j0, if_pos]
    simp
  · rw [if_pos rfl, if_neg (by omega), show decide ((cs.length : Int) > 2000) = false from by simp; omega]
    simp only [r8_Right.j0]
    rw [if_neg (by simp)]
    have h0 := rright_l0 (b := b) (a := a) (cl := cl) hl hl2 ns.length 0 k (by omega) (by omega) rfl rfl
    refine h0.trans ?_
    cases ns.any oddName <;> cases dup (ns.map fun n : S72 => n.f0) <;> cases cs.any oddCell <;> simp
end
end Go.Proofs.Ytmkncddbecmlpaa.Pr
end
section
set_option linter.unusedVariables false
namespace Go.Proofs.Ytmkncddbecmlpaa.Pr
open Go.RowKit Go.Proofs.YtmkncddbecmlpaaW.PrintWords Go.Proofs.YtmkncddbecmlpaaW.PrintLast Go.Proofs.YtmkncddbecmlpaaW.PrintMore
abbrev Answer := ByteArray × ByteArray × Int × (List S72) × (List S74) × Bool × Int
def labelT (b : ByteArray) (a : Int) (ns : List S72) (cs : List S74) (cl : Bool) (t : ByteArray) : Answer :=
  match ns.find? (fun n => decide (n.f0 = t)) with
  | some n => (n.f1, b, a, ns, cs, cl, 0)
  | none => if a + 16 ≤ (b.size : Int) then (cut b a 16, b, a + 16, ns ++ [⟨t, cut b a 16⟩], cs, clashP (ns ++ [⟨t, cut b a 16⟩]) cs, 0) else (⟨#[]⟩, b, a, ns, cs, cl, 12)
def labelS (b : ByteArray) (a : Int) (ns : List S72) (cs : List S74) (cl : Bool) (t : ByteArray) : Answer :=
  if rightP b a ns cs cl = true ∧ t.size ≤ 100 then labelT b a ns cs cl t else (⟨#[]⟩, b, a, ns, cs, cl, 1)
def sealT (b : ByteArray) (a : Int) (ns : List S72) (cs : List S74) (cl : Bool) (l t : ByteArray) : Answer :=
  match cs.find? (fun n => decide (n.f0 = l) && decide (n.f1 = t)) with
  | some c => (c.f2, b, a, ns, cs, cl, 0)
  | none => if a + 40 ≤ (b.size : Int) then (cut b a 40, b, a + 40, ns, cs ++ [⟨l, t, cut b a 40⟩], clashP ns (cs ++ [⟨l, t, cut b a 40⟩]), 0) else (⟨#[]⟩, b, a, ns, cs, cl, 12)
def sealS (b : ByteArray) (a : Int) (ns : List S72) (cs : List S74) (cl : Bool) (l t : ByteArray) : Answer :=
  if rightP b a ns cs cl = true ∧ l.size = 16 ∧ t.size = 24 then sealT b a ns cs cl l t else (⟨#[]⟩, b, a, ns, cs, cl, 1)
section
variable {b : ByteArray} {a : Int} {ns : List S72} {cs : List S74} {cl : Bool}
theorem label_eq (h1 : ns.length ≤ 1999) (h2 : cs.length ≤ 1999) (t : ByteArray) (k : Nat) : ideal_Label.f (k + 2) b a ns cs cl t = some (labelS b a ns cs cl t) := by
  unfold ideal_Label.f
  rw [own_eq ⟨by omega, by omega⟩]
  simp only [Option.bind_some]
  unfold ideal_Right.f
  simp only [Option.bind_some]
  by_cases hr : rightP b a ns cs cl = true
  case neg =>
    rw [if_neg hr, show labelS b a ns cs cl t = _ from if_neg (fun h => hr h.1)]
    simp only [ideal_Label.j0, if_pos]
  · have hR := rightP_iff.1 hr
    rw [if_pos hr]
    simp only [ideal_Label.j0]
    by_cases ht : t.size ≤ 100
    · rw [show decide ((t.size : Int) > 100) = false from by simp; omega, if_neg (by simp), show labelS b a ns cs cl t = labelT b a ns cs cl t from if_pos ⟨hr, ht⟩]
      unfold ideal_find_51.f fnd labelT
      cases hf : ns.find? (fun n => decide (n.f0 = t)) with
      | some n => simp
      | none =>
        simp only [Option.bind_some]
        rw [if_neg (by simp), if_neg (by omega), take_eq]
        by_cases hroom : a + 16 ≤ (b.size : Int)
        · rw [takeP_ok hR.tape (by omega) (by omega), Option.bind_some, if_pos hroom]
          dsimp only
          rw [if_pos rfl, own_eq ⟨by omega, by omega⟩, Option.bind_some]
          dsimp only
          rw [if_pos (by omega)]
          unfold ideal_clash.f
          rfl
        · rw [takeP_short hR.tape (by omega) (by omega), Option.bind_some, if_neg hroom]
          dsimp only
          rw [if_neg (by decide)]
    · rw [show decide ((t.size : Int) > 100) = true from by simp; omega, if_pos rfl, show labelS b a ns cs cl t = _ from if_neg (fun h => ht h.2)]
theorem seal_eq (h1 : ns.length ≤ 1999) (h2 : cs.length ≤ 1999) (l t : ByteArray) (k : Nat) : ideal_Seal.f (k + 2) b a ns cs cl l t = some (sealS b a ns cs cl l t) := by
  unfold ideal_Seal.f
  rw [own_eq ⟨by omega, by omega⟩]
  simp only [Option.bind_some]
  unfold ideal_Right.f
  simp only [Option.bind_some]
  by_cases hr : rightP b a ns cs cl = true
  case neg =>
    rw [if_neg hr, show sealS b a ns cs cl l t = _ from if_neg (fun h => hr h.1)]
    simp only [ideal_Seal.j0, if_pos]
  · have hR := rightP_iff.1 hr
    rw [if_pos hr]
    by_cases hl : (l.size : Int) = 16
    case neg =>
      rw [if_neg hl, show sealS b a ns cs cl l t = _ from if_neg (fun h => hl (by omega))]
      simp only [ideal_Seal.j0, if_pos]
    rw [if_pos hl]
    simp only [ideal_Seal.j0]
    by_cases ht : t.size = 24
    · rw [show ((t.size : Int) != 24) = false from by simp; omega, if_neg (by simp), show sealS b a ns cs cl l t = sealT b a ns cs cl l t from if_pos ⟨hr, by omega, ht⟩]
      unfold ideal_find_66.f fnd sealT
      cases hf : cs.find? (fun n => decide (n.f0 = l) && decide (n.f1 = t)) with
      | some n => simp
      | none =>
        simp only [Option.bind_some]
        rw [if_neg (by simp), if_neg (by omega), take_eq]
        by_cases hroom : a + 40 ≤ (b.size : Int)
        · rw [takeP_ok hR.tape (by omega) (by omega), Option.bind_some, if_pos hroom]
          dsimp only
          rw [if_pos rfl, own_eq ⟨by omega, by omega⟩, Option.bind_some]
          dsimp only
          rw [if_pos (by omega)]
          unfold ideal_clash.f
          rfl
        · rw [takeP_short hR.tape (by omega) (by omega), Option.bind_some, if_neg hroom]
          dsimp only
          rw [if_neg (by decide)]
    · rw [show ((t.size : Int) != 24) = true from by simp; omega, if_pos rfl, show sealS b a ns cs cl l t = _ from if_neg (fun h => ht h.2.2)]
theorem rown_eq (h1 : ns.length ≤ 1999) (h2 : cs.length ≤ 1999) : r8_Own.f b a ns cs cl = some (b, a, ns, cs, cl) := by
  unfold r8_Own.f
  rw [if_pos (by simp; omega), if_pos (by simp; omega)]
  rfl
theorem rlabel_l0 (h1 : ns.length ≤ 19) (h2 : cs.length ≤ 19) (hR : RightS b a ns cs cl) (t : ByteArray) : ∀ (d i k : Nat), i + d = ns.length → d + 1400 < k → (∀ j, (hj : j < ns.length) → j < i → ns[j].f0 ≠ t) →
    r8_Label.l0 k t i b a ns cs cl b a ns cs cl = some (labelT b a ns cs cl t) := by
  intro d
  induction d with
  | zero =>
    intro i k h hk hn
    obtain ⟨k, rfl⟩ : ∃ m, k = m + 1 + 1 := ⟨k - 2, by omega⟩
    simp only [r8_Label.l0]
    rw [if_neg (by omega), if_neg (by omega), rtake_eq _ _ _ (by omega)]
    have hf : ns.find? (fun n => decide (n.f0 = t)) = none := by
      rw [List.find?_eq_none]
      intro x hx
      obtain ⟨j, hj, rfl⟩ := List.getElem_of_mem hx
      simpa using hn j hj (by omega)
    unfold labelT
    rw [hf]
    dsimp only
    by_cases hroom : a + 16 ≤ (b.size : Int)
    · rw [takeP_ok hR.tape (by omega) (by omega), Option.bind_some, if_pos hroom]
      dsimp only
      rw [if_pos rfl, if_pos (by omega), Option.bind_some, rclash_eq (by simp; omega) (by omega) (by omega)]
      rfl
    · rw [takeP_short hR.tape (by omega) (by omega), Option.bind_some, if_neg hroom]
      dsimp only
      rw [if_neg (by decide)]
  | succ d ih =>
    intro i k h hk hn
    obtain ⟨k, rfl⟩ : ∃ m, k = m + 1 := ⟨k - 1, by omega⟩
    have hi : i < ns.length := by omega
    simp only [r8_Label.l0]
    rw [if_pos (by omega), if_pos (by omega), rd72_get hi, show wrap64 ((i : Int) + 1) = ((i + 1 : Nat) : Int) from by unfold wrap64; omega]
    by_cases he : ns[i].f0 = t
    · rw [if_pos ((tl_eq _ _).2 he)]
      unfold labelT
      rw [List.find?_eq_some_iff_getElem.2 ⟨by simpa using he, i, hi, rfl, fun j hj => by simpa using hn j (by omega) hj⟩]
    · rw [if_neg (fun e => he ((tl_eq _ _).1 e))]
      refine ih (i + 1) k (by omega) (by omega) (fun j hj hji => ?_)
      by_cases e : j < i
      · exact hn j hj e
      · obtain rfl : j = i := by omega
        exact he
theorem rlabel_eq (h1 : ns.length ≤ 19) (h2 : cs.length ≤ 19) (t : ByteArray) {k : Nat} (hk : 3300 < k) : r8_Label.f k b a ns cs cl t = some (labelS b a ns cs cl t) := by
  obtain ⟨k, rfl⟩ : ∃ m, k = m + 1 := ⟨k - 1, by omega⟩
  unfold r8_Label.f
  rw [rown_eq (by omega) (by omega), Option.bind_some, rright8_eq (by omega) (by omega) (by omega), Option.bind_some]
  by_cases hr : rightP b a ns cs cl = true
  case neg =>
    rw [if_neg hr, show labelS b a ns cs cl t = _ from if_neg (fun h => hr h.1)]
    simp only [r8_Label.j0, if_pos]
  · rw [if_pos hr]
    simp only [r8_Label.j0]
    by_cases ht : t.size ≤ 100
    · rw [show decide ((t.size : Int) > 100) = false from by simp; omega, if_neg (by simp), show labelS b a ns cs cl t = labelT b a ns cs cl t from if_pos ⟨hr, ht⟩]
      exact rlabel_l0 h1 h2 (rightP_iff.1 hr) t ns.length 0 k (by omega) (by omega) (fun j _ h => absurd h (by omega))
    · rw [show decide ((t.size : Int) > 100) = true from by simp; omega, if_pos rfl, show labelS b a ns cs cl t = _ from if_neg (fun h => ht h.2)]
theorem rseal_l0 (h1 : ns.length ≤ 19) (h2 : cs.length ≤ 19) (hR : RightS b a ns cs cl) (l t : ByteArray) : ∀ (d i k : Nat), i + d = cs.length → d + 1400 < k → (∀ j, (hj : j < cs.length) → j < i → ¬ (cs[j].f0 = l ∧ cs[j].f1 = t)) →
    r8_Seal.l0 k l t i b a ns cs cl b a ns cs cl = some (sealT b a ns cs cl l t) := by
  intro d
  induction d with
  | zero =>
    intro i k h hk hn
    obtain ⟨k, rfl⟩ : ∃ m, k = m + 1 + 1 := ⟨k - 2, by omega⟩
    simp only [r8_Seal.l0]
    rw [if_neg (by omega), if_neg (by omega), rtake_eq _ _ _ (by omega)]
    have hf : cs.find? (fun n => decide (n.f0 = l) && decide (n.f1 = t)) = none := by
      rw [List.find?_eq_none]
      intro x hx
      obtain ⟨j, hj, rfl⟩ := List.getElem_of_mem hx
      have h9 := hn j hj (by omega)
      simp only [Bool.and_eq_true, decide_eq_true_eq]
      exact h9
    unfold sealT
    rw [hf]
    dsimp only
    by_cases hroom : a + 40 ≤ (b.size : Int)
    · rw [takeP_ok hR.tape (by omega) (by omega), Option.bind_some, if_pos hroom]
      dsimp only
      rw [if_pos rfl, if_pos (by omega), Option.bind_some, rclash_eq (by omega) (by simp; omega) (by omega)]
      rfl
    · rw [takeP_short hR.tape (by omega) (by omega), Option.bind_some, if_neg hroom]
      dsimp only
      rw [if_neg (by decide)]
  | succ d ih =>
    intro i k h hk hn
    obtain ⟨k, rfl⟩ : ∃ m, k = m + 1 := ⟨k - 1, by omega⟩
    have hi : i < cs.length := by omega
    have ih := ih (i + 1) k (by omega) (by omega)
    simp only [r8_Seal.l0]
    rw [if_pos (by omega), if_pos (by omega), rd74_get hi, show wrap64 ((i : Int) + 1) = ((i + 1 : Nat) : Int) from by unfold wrap64; omega]
    simp only [tl_eq]
    have next : ¬ (cs[i].f0 = l ∧ cs[i].f1 = t) → r8_Seal.l0 k l t ((i + 1 : Nat) : Int) b a ns cs cl b a ns cs cl = some (sealT b a ns cs cl l t) := fun he => by
      refine ih (fun j hj hji => ?_)
      by_cases e : j < i
      · exact hn j hj e
      · obtain rfl : j = i := by omega
        exact he
    by_cases he : cs[i].f0 = l
    · rw [if_pos he]
      by_cases he2 : cs[i].f1 = t
      · rw [if_pos he2]
        unfold sealT
        rw [List.find?_eq_some_iff_getElem.2 ⟨by simp [he, he2], i, hi, rfl, fun j hj => by
          have h9 := hn j (by omega) hj
          by_cases e : cs[j].f0 = l <;> simp [e]
          exact fun e2 => h9 ⟨e, e2⟩⟩]
      · rw [if_neg he2]
        exact next (fun h => he2 h.2)
    · rw [if_neg he]
      exact next (fun h => he h.1)
theorem rseal_eq (h1 : ns.length ≤ 19) (h2 : cs.length ≤ 19) (l t : ByteArray) {k : Nat} (hk : 3300 < k) : r8_Seal.f k b a ns cs cl l t = some (sealS b a ns cs cl l t) := by
  obtain ⟨k, rfl⟩ : ∃ m, k = m + 1 := ⟨k - 1, by omega⟩
  unfold r8_Seal.f
  rw [rown_eq (by omega) (by omega), Option.bind_some, rright8_eq (by omega) (by omega) (by omega), Option.bind_some]
  by_cases hr : rightP b a ns cs cl = true
  case neg =>
    rw [if_neg hr, show sealS b a ns cs cl l t = _ from if_neg (fun h => hr h.1)]
    simp only [r8_Seal.j0, if_pos]
  · rw [if_pos hr]
    by_cases hl : (l.size : Int) = 16
    case neg =>
      rw [if_neg hl, show sealS b a ns cs cl l t = _ from if_neg (fun h => hl (by omega))]
      simp only [r8_Seal.j0, if_pos]
    rw [if_pos hl]
    simp only [r8_Seal.j0]
    by_cases ht : t.size = 24
    · rw [show ((t.size : Int) != 24) = false from by simp; omega, if_neg (by simp), show sealS b a ns cs cl l t = sealT b a ns cs cl l t from if_pos ⟨hr, by omega, ht⟩]
      exact rseal_l0 h1 h2 (rightP_iff.1 hr) l t cs.length 0 k (by omega) (by omega) (fun j _ h => absurd h (by omega))
    · rw [show ((t.size : Int) != 24) = true from by simp; omega, if_pos rfl, show sealS b a ns cs cl l t = _ from if_neg (fun h => ht h.2.2)]
end
end Go.Proofs.Ytmkncddbecmlpaa.Pr
end
section
set_option linter.unusedVariables false
namespace Go.Proofs.Ytmkncddbecmlpaa.Pr
open Go.RowKit Go.Proofs.YtmkncddbecmlpaaW.PrintWords Go.ChangeShapes Go.WideShapes Go.ChangeAt
def wf46 (l : List S46) : Prop := ∀ x ∈ l, (Lit.int .i64 x.f0).wf = true ∧ (Lit.int .i64 x.f1).wf = true ∧ (Lit.int .i64 x.f2).wf = true
theorem rd46_wf {l : List S46} (h : wf46 l) {i : Int} (h0 : 0 ≤ i) (h1 : i < l.length) : (Lit.int .i64 (rd_T46 l i).f0).wf = true ∧ (Lit.int .i64 (rd_T46 l i).f1).wf = true ∧ (Lit.int .i64 (rd_T46 l i).f2).wf = true := by
  have hi : i.toNat < l.length := by omega
  have : rd_T46 l i = l[i.toNat] := by unfold rd_T46; simp [hi]
  rw [this]
  exact h _ (List.getElem_mem hi)
section
variable {H : Type} {enc : TypeId × Value → H} {w : World} {base : Nat} {spare : Nat → Bool} {held : Bool} {fuel : Nat}
set_option maxRecDepth 100000 in
theorem open_46 {cs : List Value} {x : DataW H × List MemPlace} (h : DataW.trod enc Try.prog w base spare held fuel 46 cs = some x) :
    ∃ s : S46, cs = [.int .i64 s.f0, .int .i64 s.f1, .int .i64 s.f2] ∧ (Lit.int .i64 s.f0).wf = true ∧ (Lit.int .i64 s.f1).wf = true ∧ (Lit.int .i64 s.f2).wf = true := by
  obtain ⟨xs, m, rfl, rfl, hl, hx, he⟩ := DataW.trod_array Try.underlying46 h
  have hc : Try.prog.cellsOf 46 = 3 := by kernel_rfl
  have hc3 : Try.prog.cellsOf 3 = 1 := by kernel_rfl
  rw [hc] at hl
  match cs, hl with
  | [u0, u1, u2], _ =>
    have g : ∀ i, (hi : i < 3) → ∃ n, ((([u0, u1, u2] : List Value).drop (i * 1)).take 1) = [.int .i64 n] ∧ (Lit.int .i64 n).wf = true := fun i hi => by
      have := he i hi
      rw [hc3, List.getElem?_eq_getElem (by omega)] at this
      obtain ⟨n, e, _, hw⟩ := DataW.trod_int Try.underlying3 this
      exact ⟨n, e, hw⟩
    obtain ⟨n0, e0, w0⟩ := g 0 (by omega)
    obtain ⟨n1, e1, w1⟩ := g 1 (by omega)
    obtain ⟨n2, e2, w2⟩ := g 2 (by omega)
    simp at e0 e1 e2
    subst e0
    subst e1
    subst e2
    exact ⟨⟨n0, n1, n2⟩, rfl, w0, w1, w2⟩
theorem open_rows46 {a : Option Addr} {len cap : Nat} {d : DataW H} {p : List MemPlace} (h : DataW.Trod enc Try.prog w base spare held 45 (.slice a len cap) d p) :
    ∃ l : List S46, len = l.length ∧ Kd.C k46 w a l.length l ∧ l.length ≤ cap ∧ l.length ≤ maxLen ∧ wf46 l := by
  obtain ⟨fuel, hf⟩ := h
  have hc : Try.prog.cellsOf 46 = 3 := by kernel_rfl
  rcases DataW.trod_slice Try.underlying45 hf with ⟨hcs, _⟩ | ⟨ad, l, c, elems, rest, n, rfl, hcs, _, _, hlc, hcm, hel, hcell, _⟩
  · simp [Value.cells] at hcs
    obtain ⟨rfl, rfl, rfl⟩ := hcs
    exact ⟨[], rfl, ⟨rfl, by simp, fun h => absurd h (by simp)⟩, by simp, by simp, fun x hx => by cases hx⟩
  · simp [Value.cells] at hcs
    obtain ⟨rfl, rfl, rfl⟩ := hcs
    rw [hc] at hcell
    have each : ∀ i, i < len → ∃ s : S46, (∀ j u, ([.int .i64 s.f0, .int .i64 s.f1, .int .i64 s.f2] : List Value)[j]? = some u → w.cell? (ad.add (i * 3 + j)) = some u) ∧ (Lit.int .i64 s.f0).wf = true ∧ (Lit.int .i64 s.f1).wf = true ∧ (Lit.int .i64 s.f2).wf = true := fun i hi => by
      have h1 := hcell i hi
      rw [List.getElem?_eq_getElem (by omega), Option.bind_eq_some_iff] at h1
      obtain ⟨cs, h2, h3⟩ := h1
      obtain ⟨s, rfl, w0, w1, w2⟩ := open_46 h3
      refine ⟨s, fun j u hj => ?_, w0, w1, w2⟩
      have h4 := (World.cells?_some h2).2.2 j (by
        have := (List.getElem?_eq_some_iff.1 hj).1
        simpa using this)
      rw [hj] at h4
      rw [← h4, Addr.add_add]
    clear hcell
    have hs : ∃ l : List S46, l.length = len ∧ ∀ i s, l[i]? = some s → (∀ j u, ([.int .i64 s.f0, .int .i64 s.f1, .int .i64 s.f2] : List Value)[j]? = some u → w.cell? (ad.add (i * 3 + j)) = some u) ∧ (Lit.int .i64 s.f0).wf = true ∧ (Lit.int .i64 s.f1).wf = true ∧ (Lit.int .i64 s.f2).wf = true := by
      refine ⟨(List.range len).map fun i => if hi : i < len then (each i hi).choose else z46, by simp, fun i s hi => ?_⟩
      have hl := (List.getElem?_eq_some_iff.1 hi).1
      simp at hl
      simp [hl] at hi
      subst hi
      exact (each i hl).choose_spec
    obtain ⟨l, rfl, hl⟩ := hs
    have hmax : maxLen ≤ 9223372036854775807 := by decide
    refine ⟨l, rfl, ⟨rfl, by omega, fun _ => ⟨ad, rfl, fun j s hj => ⟨_, rfl, k46_mk w s, (hl j s hj).1⟩⟩⟩, hlc, by omega, fun x hx => ?_⟩
    obtain ⟨i, hi⟩ := List.getElem?_of_mem hx
    exact (hl i x hi).2
end
end Go.Proofs.Ytmkncddbecmlpaa.Pr
end
section
set_option linter.unusedVariables false
namespace Go.Proofs.Ytmkncddbecmlpaa.Pure
open Go.RowKit Go.Proofs.Ytmkncddbecmlpaa.Pr Go.Proofs.YtmkncddbecmlpaaW.PrintWords Go.Proofs.YtmkncddbecmlpaaW.PrintLast
structure NInv (i : Nat) (b : ByteArray) (a : Int) (ns : List S72) (cs : List S74) (cl : Bool) : Prop where
  inv : Inv8 i b a ns cs cl
  names : ∀ n ∈ ns, n.f0.size = 1
  cells : ∀ c ∈ cs, ∃ r : Int, 0 ≤ r ∧ r < 4 ∧ c.f0 = strOfNums ([108, r] ++ List.replicate 14 0)
theorem ask_step {i : Nat} {b : ByteArray} {a : Int} {ns : List S72} {cs : List S74} {cl : Bool} (H : NInv i b a ns cs cl) (hi : i < 15) {x y z : Int} (hx : (Lit.int .i64 x).wf = true) (hy : (Lit.int .i64 y).wf = true) (hz : (Lit.int .i64 z).wf = true) :
    ∃ a' ns' cs' cl', (∀ k, 3300 < k → u8_Ask.f k b a ns cs cl x y z = some (b, a', ns', cs', cl')) ∧ NInv (i + 1) b a' ns' cs' cl' := by
  have hm := H.inv.many
  obtain ⟨p, hp, hp0, hp1⟩ := pick8 hx (n := 2) (by omega)
  by_cases hp2 : p = 0
  · obtain ⟨q, hq, hq0, hq1⟩ := pick8 hy (n := 6) (by omega)
    have hts : (strOfNums [q % 256]).size = 1 := by rw [strOfNums_size]; rfl
    obtain ⟨s, a', ns', cl', hL, hI, _, _, hnew⟩ := label_step H.inv hi (t := strOfNums [q % 256]) (by omega)
    have hS := hL 0
    rw [label_eq (by omega) (by omega)] at hS
    refine ⟨a', ns', cs, cl', fun k hk => ?_, hI, fun n hn => ?_, H.cells⟩
    · unfold u8_Ask.f
      rw [hp, Option.bind_some, if_pos hp2, hq, Option.bind_some, rlabel_eq (by omega) (by omega) _ hk, hS, Option.bind_some]
    · rcases hnew n hn with h | rfl
      · exact H.names n h
      · exact hts
  · obtain ⟨l, _, hl0, hl1, hL⟩ := label8 hy
    obtain ⟨t, _, ht0, ht1, hT⟩ := text8 hz
    obtain ⟨s, a', cs', cl', hS, hI, _, _, hnew⟩ := seal_step H.inv hi (l := strOfNums ([108, l] ++ List.replicate 14 0)) (t := strOfNums ([t] ++ List.replicate 23 0)) (by rw [strOfNums_size]; simp) (by rw [strOfNums_size]; simp)
    have hS := hS 0
    rw [seal_eq (by omega) (by omega)] at hS
    refine ⟨a', ns, cs', cl', fun k hk => ?_, hI, H.names, fun c hc => ?_⟩
    · unfold u8_Ask.f
      rw [hp, Option.bind_some, if_neg hp2, hL, Option.bind_some, hT, Option.bind_some, rseal_eq (by omega) (by omega) _ _ hk, hS, Option.bind_some]
    · rcases hnew c hc with h | rfl
      · exact H.cells c h
      · exact ⟨l, hl0, hl1, rfl⟩
theorem ideal_l0 {xs : List S46} (hw : wf46 xs) {b : ByteArray} : ∀ (d i : Nat) (a : Int) (ns : List S72) (cs : List S74) (cl : Bool), i + d = 15 → NInv i b a ns cs cl →
    ∃ a' ns' cs' cl', (∀ k, 3400 + d < k → u8_Ideal.l0 k xs i b a ns cs cl = some (b, a', ns', cs', cl')) ∧ NInv 15 b a' ns' cs' cl' := by
  intro d
  induction d with
  | zero =>
    intro i a ns cs cl h H
    refine ⟨a, ns, cs, cl, fun k hk => ?_, ⟨H.inv.more (by omega), H.names, H.cells⟩⟩
    obtain ⟨k, rfl⟩ : ∃ q, k = q + 1 := ⟨k - 1, by omega⟩
    simp only [u8_Ideal.l0]
    rw [if_neg (show ¬ (i : Int) < 15 by omega), ite_self]
  | succ d ih =>
    intro i a ns cs cl h H
    by_cases hlt : (i : Int) < (xs.length : Int)
    case neg =>
      refine ⟨a, ns, cs, cl, fun k hk => ?_, ⟨H.inv.more (by omega), H.names, H.cells⟩⟩
      obtain ⟨k, rfl⟩ : ∃ q, k = q + 1 := ⟨k - 1, by omega⟩
      simp only [u8_Ideal.l0]
      rw [if_neg hlt]
    obtain ⟨w0, w1, w2⟩ := rd46_wf hw (i := (i : Int)) (by omega) hlt
    obtain ⟨a', ns', cs', cl', hA, hI⟩ := ask_step H (by omega) w0 w1 w2
    obtain ⟨a2, ns2, cs2, cl2, hB, hJ⟩ := ih (i + 1) a' ns' cs' cl' (by omega) hI
    refine ⟨a2, ns2, cs2, cl2, fun k hk => ?_, hJ⟩
    obtain ⟨k, rfl⟩ : ∃ q, k = q + 1 := ⟨k - 1, by omega⟩
    simp only [u8_Ideal.l0]
    rw [if_pos hlt, if_pos (by omega), if_pos (by omega), hA k (by omega), Option.bind_some, show wrap64 ((i : Int) + 1) = ((i + 1 : Nat) : Int) from by unfold wrap64; omega]
    exact hB k (by omega)
def never : ByteArray := ⟨#[110, 101, 118, 101, 114, 32, 97, 115, 107, 101, 100]⟩
def hex16 : ByteArray := ⟨#[48, 49, 50, 51, 52, 53, 54, 55, 56, 57, 97, 98, 99, 100, 101, 102]⟩
def never24 : ByteArray := ⟨#[110, 101, 118, 101, 114, 32, 97, 115, 107, 101, 100, 44, 32, 97, 116, 32, 97, 110, 121, 32, 116, 105, 109, 101]⟩
def short5 : ByteArray := ⟨#[115, 104, 111, 114, 116]⟩
theorem never_label {c : S74} {r : Int} (h : c.f0 = strOfNums ([108, r] ++ List.replicate 14 0)) : ¬ (c.f0 = hex16 ∧ c.f1 = never24) := fun e => by
  have h1 := e.1
  rw [h] at h1
  have h2 := congrArg (fun z : ByteArray => z.data.toList.head?) h1
  simp [strOfNums, hex16] at h2
theorem none_l0 {b : ByteArray} {a : Int} {ns : List S72} {cs : List S74} {cl : Bool} (H : NInv 15 b a ns cs cl) (l x : ByteArray) : ∀ (d i k : Nat) (is : Bool), i + d = cs.length → d + 100 < k → (is = true ↔ ∃ j, ∃ hj : j < cs.length, j < i ∧ cs[j].f0 = l ∧ cs[j].f2 = x) →
    u8_IdealNone.l0 k true l x is i b a ns cs cl = some true := by
  have hR := H.inv.right
  have hm := H.inv.many
  have hs := H.inv.size
  intro d
  induction d with
  | zero =>
    intro i k is h hk hi
    obtain ⟨m, rfl⟩ : ∃ q, k = q + 1 := ⟨k - 1, by omega⟩
    simp only [u8_IdealNone.l0]
    rw [if_neg (by omega), open_eq hR, Option.bind_some]
    obtain ⟨k, rfl⟩ : ∃ q, m = (q + 50) + 2 := ⟨m - 52, by omega⟩
    have hr := rightB_iff.1 hR.tape
    have hP : RightS b (b.size : Int) ns cs cl := ⟨rightB_iff.2 ⟨hr.1, by omega, by omega⟩, hR.len, hR.names, hR.cells, hR.dn, hR.dc, hR.clash⟩
    have hL := label_short hP (t := never) (by decide) (by omega) (fun n hn e => by have := H.names n hn; rw [e] at this; exact absurd this (by decide)) (by omega) (k + 50)
    have hS := seal_short hP (l := hex16) (t := never24) (by rfl) (by rfl) (by omega) (fun c hc => by obtain ⟨r, _, _, h⟩ := H.cells c hc; exact never_label h) (by omega) (k + 50)
    have hO := seal_odd hR (l := l) (t := short5) (by decide) (k + 50 + 1)
    have e1 := (show ideal_Label.f (k + 50 + 2) b (b.size : Int) ns cs cl (⟨#[110, 101, 118, 101, 114, 32, 97, 115, 107, 101, 100]⟩ : ByteArray) = _ from hL)
    have e2 := (show ideal_Seal.f (k + 50 + 2) b (b.size : Int) ns cs cl (⟨#[48, 49, 50, 51, 52, 53, 54, 55, 56, 57, 97, 98, 99, 100, 101, 102]⟩ : ByteArray) (⟨#[110, 101, 118, 101, 114, 32, 97, 115, 107, 101, 100, 44, 32, 97, 116, 32, 97, 110, 121, 32, 116, 105, 109, 101]⟩ : ByteArray) = _ from hS)
    have e3 := (show ideal_Seal.f (k + 50 + 2) b a ns cs cl l (⟨#[115, 104, 111, 114, 116]⟩ : ByteArray) = _ from hO)
    rw [e1, e2, e3]
    simp only [Option.bind_some, if_pos]
    have s1 := same_refl (b := b) (a := (b.size : Int)) (ns := ns) (cs := cs) (cl := cl) hR.len (k := k + 50 + 2) (by omega)
    have s2 := same_refl (b := b) (a := a) (ns := ns) (cs := cs) (cl := cl) hR.len (k := k + 50 + 2) (by omega)
    rw [s1, s2]
    simp only [Option.bind_some, if_pos]
    cases hf : cs.find? (fun n => decide (n.f0 = l) && decide (n.f2 = x)) with
    | none =>
      have hfalse : is = false := by
        cases is
        · rfl
        · obtain ⟨j, hj, _, h1, h2⟩ := hi.1 rfl
          rw [List.find?_eq_none] at hf
          exact absurd (hf _ (List.getElem_mem hj)) (by simp [h1, h2])
      rw [hfalse]
      simp
    | some c =>
      have h9 := List.find?_some hf
      simp only [Bool.and_eq_true, decide_eq_true_eq] at h9
      obtain ⟨j, hj, e⟩ := List.getElem_of_mem (List.mem_of_find?_eq_some hf)
      have htrue : is = true := hi.2 ⟨j, hj, by omega, by rw [e]; exact h9.1, by rw [e]; exact h9.2⟩
      rw [htrue]
      simp
  | succ d ih =>
    intro i k is h hk hi
    obtain ⟨k, rfl⟩ : ∃ q, k = q + 1 := ⟨k - 1, by omega⟩
    have hlt : i < cs.length := by omega
    have hw : wrap64 ((i : Int) + 1) = ((i + 1 : Nat) : Int) := by unfold wrap64; omega
    simp only [u8_IdealNone.l0]
    rw [if_pos (by omega), hw]
    cases is
    case true =>
      rw [if_pos rfl]
      obtain ⟨j, hj, h1, h2⟩ := hi.1 rfl
      exact ih (i + 1) k true (by omega) (by omega) ⟨fun _ => ⟨j, hj, by omega, h2⟩, fun _ => rfl⟩
    rw [if_neg (by simp), if_pos (by omega), rd74_get hlt]
    have hno : ∀ j, (hj : j < cs.length) → j < i → ¬ (cs[j].f0 = l ∧ cs[j].f2 = x) := fun j hj hji e => by
      have := hi.2 ⟨j, hj, hji, e⟩
      cases this
    simp only [tl_eq]
    by_cases h0 : cs[i].f0 = l
    · rw [if_pos h0, str_eq]
      refine ih (i + 1) k _ (by omega) (by omega) ?_
      simp only [decide_eq_true_eq]
      constructor
      · intro h2
        exact ⟨i, hlt, by omega, h0, h2⟩
      · rintro ⟨j, hj, hji, e⟩
        by_cases e2 : j < i
        · exact absurd e (hno j hj e2)
        · obtain rfl : j = i := by omega
          exact e.2
    · rw [if_neg h0]
      refine ih (i + 1) k false (by omega) (by omega) ⟨fun h => absurd h Bool.false_ne_true, ?_⟩
      rintro ⟨j, hj, hji, e⟩
      by_cases e2 : j < i
      · exact absurd e (hno j hj e2)
      · obtain rfl : j = i := by omega
        exact absurd e.1 h0
theorem IdealNone (l0 : List Int) (l1 : List S46) (a2 a3 : ByteArray) (h0 : l0.length ≤ maxLen) (h1 : ∀ x ∈ l0, (Lit.int .i64 x).wf = true) (h2 : l1.length ≤ maxLen) (h3 : wf46 l1) (h4 : a2.size ≤ 140737488351232) (h5 : a3.size ≤ 140737488351232) : ∃ k, u8_IdealNone.f k l0 l1 a2 a3 = some true := by
  obtain ⟨K, hK⟩ : ∃ K : Nat, K = 5000 := ⟨_, rfl⟩
  obtain ⟨b, hb, hs⟩ := draws_eq h1 h0 false (k := K + 5) (by omega)
  have hr : rightB b 0 = true := rightB_iff.2 ⟨by omega, by omega, by omega⟩
  have hI := Inv8.start hs
  obtain ⟨a', ns, cs, cl, hL, hN⟩ := ideal_l0 h3 15 0 0 [] [] false (by omega) ⟨hI, by simp, by simp⟩
  have hm := hN.inv.many
  refine ⟨K + 5, ?_⟩
  unfold u8_IdealNone.f
  rw [awake8 K, hb, Option.bind_some, Option.bind_some]
  unfold u8_Ideal.f r8_New.f
  rw [rright_eq, hr, Option.bind_some, if_pos rfl, Option.bind_some]
  dsimp only
  have hL' := hL (K + 5) (by omega)
  have hL2 : u8_Ideal.l0 (K + 5) l1 0 b 0 [] [] false = some (b, a', ns, cs, cl) := hL'
  rw [hL2, Option.bind_some]
  have m1 : ∀ n : Nat, n ≤ 140737488351232 → 0 ≤ mn (n : Int) 100 ∧ mn (n : Int) 100 ≤ (n : Int) := fun n hn => by unfold mn; split <;> omega
  rw [if_pos (m1 _ h4).1, if_pos (m1 _ h4).2, if_pos (m1 _ h5).1, if_pos (m1 _ h5).2]
  exact none_l0 hN _ _ cs.length 0 (K + 5) false (by omega) (by omega) ⟨fun h => absurd h Bool.false_ne_true, fun ⟨j, _, h, _⟩ => absurd h (by omega)⟩
end Go.Proofs.Ytmkncddbecmlpaa.Pure
end
