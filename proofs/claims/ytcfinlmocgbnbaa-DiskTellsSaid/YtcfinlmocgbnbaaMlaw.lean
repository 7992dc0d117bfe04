/-
  Several texts of this seat, laid together (wip/tools/merge.py). No condition but the ones that each lemma names.
-/
import Derived.Test.YtcfinlmocgbnbaaXSq
import Derived.Test.YtcfinlmocgbnbaaPr0
section
-- Written by wip/tools/xprint.py, a patched run of the kit's print: not typed by hand.
namespace Go.Proofs.Ytcfinlmocgbnbaa.Pr
open Go.Proofs.Ytcfinlmocgbnbaa.Sq Go.RowKit Go.Proofs.YtcfinlmocgbnbaaW.PrintWords Go.Proofs.YtcfinlmocgbnbaaW.PrintLast Go.Proofs.YtcfinlmocgbnbaaW.PrintMore
attribute [local go_sem] max2_int min2_int max_two min_two max_three min_three max_four min_four   -- for this text's walks alone
set_option linter.unusedVariables false
set_option linter.unusedSimpArgs false

/-! ### columbariumlaw14_pick: function 16 -/
def columbariumlaw14_pick.f (a0 : Int) (a1 : Int) : Option (Int) := if a0 < 0 then (if a1 = 0 then (none) else (some (Int.tmod (wrap64 (-(wrap64 (a0 + 1)))) a1))) else (if a1 = 0 then (none) else (some (Int.tmod a0 a1)))
set_option maxHeartbeats 8000000 in
set_option maxRecDepth 100000 in
theorem columbariumlaw14_pick.calls (a0 : Int) (a1 : Int) (r : Int) (w : World) (h : columbariumlaw14_pick.f a0 a1 = some r) :
  Calls Try.prog 16 #[.int .i64 a0, .int .i64 a1] w fun e w' => e = .returned (.int .i64 r) ∧ Drawn0 w w' := by
 have H : (if a0 < 0 then (if a1 = 0 then (none) else (some (Int.tmod (wrap64 (-(wrap64 (a0 + 1)))) a1))) else (if a1 = 0 then (none) else (some (Int.tmod a0 a1)))) = some r := h
 clear h
 by_cases c3 : a0 < 0
 ·rw [if_pos c3] at H
  have c3b0 : decide (a0 < 0) = true := decide_eq_true c3
  clear c3
  by_cases c4 : a1 = 0
  ·rw [if_pos c4] at H
   exact absurd H (by simp)
  rw [if_neg c4] at H
  have c4b0 : (a1 == 0) = false := beq_eq_false_iff_ne.mpr c4
  have c4b1 : (a1 != 0) = true := bne_iff_ne.mpr c4
  obtain rfl := Option.some.inj H
  go_enter Try.func16, Try.ntmps16
  go_wp2
  go_ret
  exact ⟨by first | rfl | (simp; done) | (simp [*]; done), by repeat (first | exact Drawn0.refl _ | apply Drawn0.step)⟩
 rw [if_neg c3] at H
 have c3b0 : decide (a0 < 0) = false := decide_eq_false c3
 clear c3
 by_cases c5 : a1 = 0
 ·rw [if_pos c5] at H
  exact absurd H (by simp)
 rw [if_neg c5] at H
 have c5b0 : (a1 == 0) = false := beq_eq_false_iff_ne.mpr c5
 have c5b1 : (a1 != 0) = true := bne_iff_ne.mpr c5
 obtain rfl := Option.some.inj H
 go_enter Try.func16, Try.ntmps16
 go_wp2
 go_ret
 exact ⟨by first | rfl | (simp; done) | (simp [*]; done), by repeat (first | exact Drawn0.refl _ | apply Drawn0.step)⟩

end Go.Proofs.Ytcfinlmocgbnbaa.Pr
end

section
-- Written by wip/tools/xprint.py, a patched run of the kit's print: not typed by hand.
namespace Go.Proofs.Ytcfinlmocgbnbaa.Pr
open Go.Proofs.Ytcfinlmocgbnbaa.Sq Go.RowKit Go.Proofs.YtcfinlmocgbnbaaW.PrintWords Go.Proofs.YtcfinlmocgbnbaaW.PrintLast Go.Proofs.YtcfinlmocgbnbaaW.PrintMore
attribute [local go_sem] max2_int min2_int max_two min_two max_three min_three max_four min_four   -- for this text's walks alone
set_option linter.unusedVariables false
set_option linter.unusedSimpArgs false

/-! ### columbariumlaw14_Bytes: function 24 -/
def columbariumlaw14_Bytes.l0 : Nat → Int → List Int → Int → Option (ByteArray)
 | 0, _, _, _ => none
 | k + 1, x0, x3, x4 => if x4 < 64 then ((columbariumlaw14_pick.f x0 250).bind fun tz1 => (if x3.length < 140737488355328 then (columbariumlaw14_Bytes.l0 k x0 (x3 ++ [(wrap64 (tz1 + (Int.tmod x4 5))) % 256]) (wrap64 (x4 + 1))) else (none))) else (some (strOfNums x3))
def columbariumlaw14_Bytes.f (k : Nat) (a0 : Int) : Option (ByteArray) := columbariumlaw14_Bytes.l0 k a0 ([] : List Int) 0
theorem columbariumlaw14_Bytes.mono_l : ∀ k, (∀ y0 y1 y2, LeO (columbariumlaw14_Bytes.l0 k y0 y1 y2) (columbariumlaw14_Bytes.l0 (k + 1) y0 y1 y2))
 | 0 => fun _ _ _ r h => by simp [columbariumlaw14_Bytes.l0] at h
 | k + 1 => by
  have ih0 := columbariumlaw14_Bytes.mono_l k
  ·intro y0 y1 y2
   unfold columbariumlaw14_Bytes.l0
   repeat' first
   | (with_reducible exact ih0 _ _ _)
   | (with_reducible exact LeO.refl _)
   | (with_reducible exact LeO.none _)
   | (with_reducible refine LeO.ite ?_ ?_)
   | (with_reducible refine LeO.bind ?_ (fun _ => ?_))
   | exact ih0 _ _ _
   | exact LeO.none _
   | refine LeO.ite ?_ ?_
   | refine LeO.bind ?_ (fun _ => ?_)
theorem columbariumlaw14_Bytes.mono : ∀ a0 k, LeO (columbariumlaw14_Bytes.f k a0) (columbariumlaw14_Bytes.f (k + 1) a0) := by
 intro a0 k
 have ih0 := columbariumlaw14_Bytes.mono_l k
 unfold columbariumlaw14_Bytes.f
 repeat' first
  | (with_reducible exact ih0 _ _ _)
  | (with_reducible exact LeO.refl _)
  | (with_reducible exact LeO.none _)
  | (with_reducible refine LeO.ite ?_ ?_)
  | (with_reducible refine LeO.bind ?_ (fun _ => ?_))
  | exact ih0 _ _ _
  | exact LeO.none _
  | refine LeO.ite ?_ ?_
  | refine LeO.bind ?_ (fun _ => ?_)
set_option maxHeartbeats 8000000 in
set_option maxRecDepth 100000 in
theorem columbariumlaw14_Bytes.calls (k : Nat) (a0 : Int) (r : ByteArray) (w : World) (h : columbariumlaw14_Bytes.f k a0 = some r) :
  Calls Try.prog 24 #[.int .i64 a0] w fun e w' => e = .returned (.string r) ∧ Below w.heap.size w w' := by
 have HB := am (Below.refl w.heap.size w)
 have H : (columbariumlaw14_Bytes.l0 k a0 ([] : List Int) 0) = some r := h
 clear h
 have H' := am H
 clear H
 go_enter Try.func24, Try.ntmps24
 go_wp2
 go_loopg [3, 4] k (fun kq v3 v4 w' => ∃ (x3_1 : List Int) (x4_1 : Int), v4 = .int .i64 x4_1 ∧ Aside0 (columbariumlaw14_Bytes.l0 kq a0 x3_1 x4_1 = some r) ∧ Aside0 (kq ≤ k) ∧ Aside0 (Kd.R (Kd.int .u8) 5 w' w.heap.size (fun _ => True) v3 x3_1) ∧ Aside0 (Below w.heap.size w w'))
 case atStart => exact ⟨(([] : List Int)), (0), (by first | rfl | (simp; done) | (simp [*]; done)), H', ⟨Nat.le_refl _⟩, ⟨by exact Kd.R_nil _ _ _ _ _⟩, ⟨by repeat first | (with_reducible first | exact HB.out | apply ba | apply bn | apply bd | refine bs (by assumption) ?_) | exact HB.out⟩⟩
 clear H'
 obtain ⟨x3_1, x4_1, rfl, HA, HK1, HO_3, HB⟩ := hrel
 cases gk with
 | zero => exact absurd HA.out (by simp [columbariumlaw14_Bytes.l0])
 | succ k1 => ?_
 have H := HA.out
 clear HA
 simp only [columbariumlaw14_Bytes.l0] at H
 by_cases c2 : x4_1 < 64
 rotate_left
 ·rw [if_neg c2] at H
  have c2b0 : decide (x4_1 < 64) = false := decide_eq_false c2
  clear c2
  obtain rfl := Option.some.inj H
  have hcv6 := own_string (P := Try.prog) Try.underlying49 Try.underlying5 Try.underlying9 (Kd.own_of_R HO_3.out)
  go_wp2
  go_ret
  exact ⟨by first | rfl | (simp <;> rfl) | (simp [*] <;> rfl), by repeat first | (with_reducible first | exact HB.out | apply ba | apply bn | apply bd | refine bs (by assumption) ?_) | exact HB.out⟩
 rw [if_pos c2] at H
 have c2b0 : decide (x4_1 < 64) = true := decide_eq_true c2
 clear c2
 replace H := ob_ H
 obtain ⟨tz1, A30, H⟩ := H
 replace H : (if x3_1.length < 140737488355328 then (columbariumlaw14_Bytes.l0 k1 a0 (x3_1 ++ [(wrap64 (tz1 + (Int.tmod x4_1 5))) % 256]) (wrap64 (x4_1 + 1))) else (none)) = some r := H
 have A3 := Aside0.mk A30
 clear A30
 by_cases c4 : x3_1.length < 140737488355328
 rotate_left
 ·rw [if_neg c4] at H
  exact absurd H (by simp)
 rw [if_pos c4] at H
 have LMc4 := Aside0.mk c4
 clear c4
 obtain ⟨yz2, hyz2⟩ : ∃ y_ : List Int, y_ = (x3_1 ++ [(wrap64 (tz1 + (Int.tmod x4_1 5))) % 256]) := ⟨_, rfl⟩
 replace H : (columbariumlaw14_Bytes.l0 k1 a0 yz2 (wrap64 (x4_1 + 1))) = some r := by first | (rw [hyz2]; with_reducible exact H) | (have H2_ := (Option.bind_some _ _).symm.trans H; rw [hyz2]; with_reducible exact H2_) | (have H2_ := (Option.bind_some _ _).symm.trans H; with_reducible exact H2_) | with_reducible exact H | (rw [hyz2]; exact H) | exact H
 have Nyz2 := am hyz2
 clear hyz2
 have H' := am H
 clear H
 go_wp2_with (first | ((with_reducible refine gate_callee (f := 16) rfl ?_); refine goesL_ (some 11) rfl rfl Try.func16 (by kernel_rfl) rfl #[.int .i64 a0, .int .i64 250] rfl (by (try simp only [List.map_toArray, List.map_cons, List.map_nil]) <;> rfl) ?_; (with_reducible refine (columbariumlaw14_pick.calls a0 250 tz1 _ A3.out).mono ?_); rintro e w' ⟨rfl, ⟨nd, rfl⟩⟩; refine ⟨_, rfl, ?_⟩) | ((with_reducible refine gate_builtin (b := .append) (xs := #[.tmp 9, .tmp 16]) rfl ?_); at_builtin; refine Kd.R_append (Kd.int .u8) (w0 := w) w.heap.size rfl (.tmp 9) (.tmp 16) 49 5 (.int .u8 0) 1 rfl Try.underlying49 info5 rfl (by decide) (by omega) u3 x3_1 ((wrap64 (tz1 + (Int.tmod x4_1 5))) % 256) [.int .u8 ((wrap64 (tz1 + (Int.tmod x4_1 5))) % 256)] (fun _ => True) (fun _ => False) rfl rfl ?aP (fun _ hk => hk.elim) ?aF ?aO ?aB ?aS ?aL ?_; (case aP => exact rfl); (case aB => exact (pb HB)); (case aF => exact (fun _ _ => trivial)); (case aO => exact (pr HO_3)); (case aS => exact (below_size (pb HB))); (case aL => have := LMc4.out; omega); intro vz3 w5 ho hb hg hat; rw [← Nyz2.out] at ho; have n0_ := am (hb); have n1_ := am (ho); clear HB; clear HO_3; have HB := n0_; have HOz4 := n1_; clear n0_ n1_; clear ho hb hg hat))
 go_roundg k1
 case measure => have := HK1.out; omega
 case rel => exact ⟨(yz2), (wrap64 (x4_1 + 1)), (by first | rfl | (simp; done) | (simp [*]; done)), H', ⟨by have := HK1.out; omega⟩, ⟨by (with_reducible repeat first | apply ra | apply rn | apply rd); exact HOz4.out⟩, ⟨by repeat first | (with_reducible first | exact HB.out | apply ba | apply bn | apply bd | refine bs (by assumption) ?_) | exact HB.out⟩⟩

end Go.Proofs.Ytcfinlmocgbnbaa.Pr
end

section
-- Written by wip/tools/xprint.py, a patched run of the kit's print: not typed by hand.
namespace Go.Proofs.Ytcfinlmocgbnbaa.Pr
open Go.Proofs.Ytcfinlmocgbnbaa.Sq Go.RowKit Go.Proofs.YtcfinlmocgbnbaaW.PrintWords Go.Proofs.YtcfinlmocgbnbaaW.PrintLast Go.Proofs.YtcfinlmocgbnbaaW.PrintMore
attribute [local go_sem] max2_int min2_int max_two min_two max_three min_three max_four min_four   -- for this text's walks alone
set_option linter.unusedVariables false
set_option linter.unusedSimpArgs false

/-! ### columbariumlaw14_Moves: function 18 -/
mutual
def columbariumlaw14_Moves.l0 : Nat → List (S67) → Int → List (S24) → Int → Option ((List (S24)))
 | 0, _, _, _, _ => none
 | k + 1, x0, x1, x5, x6 => if x6 < (x0.length : Int) then (columbariumlaw14_Moves.j1 k x0 x1 x5 x6 (decide (x6 < 30))) else (columbariumlaw14_Moves.j1 k x0 x1 x5 x6 false)
def columbariumlaw14_Moves.j1 : Nat → List (S67) → Int → List (S24) → Int → Bool → Option ((List (S24)))
 | 0, _, _, _, _, _ => none
 | k + 1, x0, x1, x5, x6, x14 => if x14 = true then (if 0 ≤ x6 then (if x6 < (x0.length : Int) then ((columbariumlaw14_pick.f ((rd_T67 x0 x6).f0) 5).bind fun tz2 => (if tz2 = 0 then (if x5.length < 4398046511104 then (columbariumlaw14_Moves.l0 k x0 x1 (x5 ++ [(⟨true, 0, (⟨#[]⟩ : ByteArray)⟩ : S24)]) (wrap64 (x6 + 1))) else (none)) else ((columbariumlaw14_pick.f ((rd_T67 x0 x6).f1) x1).bind fun tz7 => ((columbariumlaw14_Bytes.f k ((rd_T67 x0 x6).f2)).bind fun tz9 => (if x5.length < 4398046511104 then (columbariumlaw14_Moves.l0 k x0 x1 (x5 ++ [(⟨false, tz7, tz9⟩ : S24)]) (wrap64 (x6 + 1))) else (none)))))) else (none)) else (none)) else (some x5)
end
def columbariumlaw14_Moves.f (k : Nat) (l0 : List (S67)) (a1 : Int) : Option ((List (S24))) := columbariumlaw14_Moves.l0 k l0 a1 ([] : List (S24)) 0
theorem columbariumlaw14_Moves.mono_l : ∀ k, (∀ y0 y1 y2 y3, LeO (columbariumlaw14_Moves.l0 k y0 y1 y2 y3) (columbariumlaw14_Moves.l0 (k + 1) y0 y1 y2 y3)) ∧ (∀ y0 y1 y2 y3 y4, LeO (columbariumlaw14_Moves.j1 k y0 y1 y2 y3 y4) (columbariumlaw14_Moves.j1 (k + 1) y0 y1 y2 y3 y4))
 | 0 => ⟨fun _ _ _ _ r h => by simp [columbariumlaw14_Moves.l0] at h, fun _ _ _ _ _ r h => by simp [columbariumlaw14_Moves.j1] at h⟩
 | k + 1 => by
  obtain ⟨ih0, ih1⟩ := columbariumlaw14_Moves.mono_l k
  refine ⟨?_, ?_⟩
  ·intro y0 y1 y2 y3
   unfold columbariumlaw14_Moves.l0
   repeat' first
   | (with_reducible exact ih0 _ _ _ _)
   | (with_reducible exact ih1 _ _ _ _ _)
   | (with_reducible exact columbariumlaw14_Bytes.mono _ _)
   | (with_reducible exact LeO.refl _)
   | (with_reducible exact LeO.none _)
   | (with_reducible refine LeO.ite ?_ ?_)
   | (with_reducible refine LeO.bind ?_ (fun _ => ?_))
   | exact ih0 _ _ _ _
   | exact ih1 _ _ _ _ _
   | exact columbariumlaw14_Bytes.mono _ _
   | exact LeO.none _
   | refine LeO.ite ?_ ?_
   | refine LeO.bind ?_ (fun _ => ?_)
  ·intro y0 y1 y2 y3 y4
   unfold columbariumlaw14_Moves.j1
   repeat' first
   | (with_reducible exact ih0 _ _ _ _)
   | (with_reducible exact ih1 _ _ _ _ _)
   | (with_reducible exact columbariumlaw14_Bytes.mono _ _)
   | (with_reducible exact LeO.refl _)
   | (with_reducible exact LeO.none _)
   | (with_reducible refine LeO.ite ?_ ?_)
   | (with_reducible refine LeO.bind ?_ (fun _ => ?_))
   | exact ih0 _ _ _ _
   | exact ih1 _ _ _ _ _
   | exact columbariumlaw14_Bytes.mono _ _
   | exact LeO.none _
   | refine LeO.ite ?_ ?_
   | refine LeO.bind ?_ (fun _ => ?_)
theorem columbariumlaw14_Moves.mono : ∀ a0 a1 k, LeO (columbariumlaw14_Moves.f k a0 a1) (columbariumlaw14_Moves.f (k + 1) a0 a1) := by
 intro a0 a1 k
 obtain ⟨ih0, ih1⟩ := columbariumlaw14_Moves.mono_l k
 unfold columbariumlaw14_Moves.f
 repeat' first
  | (with_reducible exact ih0 _ _ _ _)
  | (with_reducible exact ih1 _ _ _ _ _)
  | (with_reducible exact columbariumlaw14_Bytes.mono _ _)
  | (with_reducible exact LeO.refl _)
  | (with_reducible exact LeO.none _)
  | (with_reducible refine LeO.ite ?_ ?_)
  | (with_reducible refine LeO.bind ?_ (fun _ => ?_))
  | exact ih0 _ _ _ _
  | exact ih1 _ _ _ _ _
  | exact columbariumlaw14_Bytes.mono _ _
  | exact LeO.none _
  | refine LeO.ite ?_ ?_
  | refine LeO.bind ?_ (fun _ => ?_)
def columbariumlaw14_Moves.T7 : Bool × List (List Nat × List Nat) := (true, [([], []), ([], []), ([], []), ([1, 2], [1, 2]), ([3], [3]), ([4], [4]), ([], []), ([5, 6], [5, 6]), ([], []), ([], []), ([8, 9], [8, 9]), ([10], [10]), ([11], [11]), ([12, 7], [12]), ([7, 13], [7, 13]), ([14], [14]), ([0, 15, 13], [0, 15]), ([16, 16, 0, 1, 2, 3, 4, 5, 6, 7, 8, 9, 10, 11, 12, 13, 14, 15, 16], [0, 16])])
def columbariumlaw14_Moves.B7 : List Nat := [0, 0, 0, 6, 14, 30, 0, 126, 0, 0, 768, 1792, 3840, 8190, 16382, 32766, 65535, 131071]
theorem columbariumlaw14_Moves.tab7 : rtab .any (opsOf Try.f18 7) = columbariumlaw14_Moves.T7 := by kernel_rfl
theorem columbariumlaw14_Moves.bits7 : waitsOk columbariumlaw14_Moves.T7.2 columbariumlaw14_Moves.B7 = true := by kernel_rfl
set_option maxHeartbeats 8000000 in
set_option maxRecDepth 100000 in
theorem columbariumlaw14_Moves.calls (k : Nat) (A0 : Option Addr) (c0 : Nat) (l0 : List (S67)) (a1 : Int) (r : List (S24)) (w : World) (hr0 : Kd.C k67 w A0 l0.length l0) (hc0 : l0.length ≤ c0) (h : columbariumlaw14_Moves.f k l0 a1 = some r) :
  Calls Try.prog 18 #[.slice A0 l0.length c0, .int .i64 a1] w fun e w' => ∃ v0_ : Value, e = .returned (v0_) ∧ Kd.R k24 24 w' w.heap.size (fun _ => True) v0_ r ∧ Below w.heap.size w w' := by
 have hu67 := Try.underlying67
 have hu24 := Try.underlying24
 have HR0 := am hr0
 have HC0 := am hc0
 clear hr0 hc0
 have HB := am (Below.refl w.heap.size w)
 have H : (columbariumlaw14_Moves.l0 k l0 a1 ([] : List (S24)) 0) = some r := h
 clear h
 have H' := am H
 clear H
 go_enter Try.func18, Try.ntmps18
 go_wp2
 go_loopg [5, 6] k (fun kq v5 v6 w' => ∃ (x5_1 : List (S24)) (x6_1 : Int), v6 = .int .i64 x6_1 ∧ Aside0 (columbariumlaw14_Moves.l0 kq l0 a1 x5_1 x6_1 = some r) ∧ Aside0 (kq ≤ k) ∧ Aside0 (Kd.R k24 24 w' w.heap.size (fun _ => True) v5 x5_1) ∧ Aside0 (Below w.heap.size w w'))
 case atStart => exact ⟨(([] : List (S24))), (0), (by first | rfl | (simp; done) | (simp [*]; done)), H', ⟨Nat.le_refl _⟩, ⟨by exact Kd.R_nil _ _ _ _ _⟩, ⟨by repeat first | (with_reducible first | exact HB.out | apply ba | apply bn | apply bd | refine bs (by assumption) ?_) | exact HB.out⟩⟩
 clear H'
 try clear c1
 try clear p2
 obtain ⟨x5_1, x6_1, rfl, HA, HK1, HO_5, HB⟩ := hrel
 cases gk with
 | zero => exact absurd HA.out (by simp [columbariumlaw14_Moves.l0])
 | succ k1 => ?_
 have H := HA.out
 clear HA
 simp only [columbariumlaw14_Moves.l0] at H
 have HC3 := am H
 clear H
 go_upto_region 3 with (fail)
 go_cut [14] (fun v14 wc => ∃ (kq : Nat) (x14_2 : Bool), v14 = .bool x14_2 ∧ Aside0 (columbariumlaw14_Moves.j1 kq l0 a1 x5_1 x6_1 x14_2 = some r) ∧ Aside0 (kq ≤ k1) ∧ Aside0 (Kd.R k24 24 wc w.heap.size (fun _ => True) u5 x5_1) ∧ Aside0 (Below w.heap.size w wc))
 case first =>
  have H := HC3.out
  clear HC3
  by_cases c4 : x6_1 < (l0.length : Int)
  rotate_left
  ·rw [if_neg c4] at H
   have c4b0 : decide (x6_1 < (l0.length : Int)) = false := decide_eq_false c4
   clear c4
   (first | rw [c4b0] | rw [c4b1] | (simp only [i64_w, i32_w]; rw [c4b0]) | skip)
   have H' := am H
   clear H
   go_wp2
   go_meet
   case rel => exact ⟨_, (false), (by first | rfl | (simp; done) | (simp [*]; done)), H', ⟨by have := HK1.out; first | omega | exact Nat.le_refl _⟩, ⟨by (with_reducible repeat first | apply ra | apply rn | apply rd); exact HO_5.out⟩, ⟨by repeat first | (with_reducible first | exact HB.out | apply ba | apply bn | apply bd | refine bs (by assumption) ?_) | exact HB.out⟩⟩
  rw [if_pos c4] at H
  have c4b0 : decide (x6_1 < (l0.length : Int)) = true := decide_eq_true c4
  clear c4
  (first | rw [c4b0] | rw [c4b1] | (simp only [i64_w, i32_w]; rw [c4b0]) | skip)
  have H' := am H
  clear H
  go_wp2
  go_meet
  case rel => exact ⟨_, (decide (x6_1 < 30)), (by first | rfl | (simp; done) | (simp [*]; done)), H', ⟨by have := HK1.out; first | omega | exact Nat.le_refl _⟩, ⟨by (with_reducible repeat first | apply ra | apply rn | apply rd); exact HO_5.out⟩, ⟨by repeat first | (with_reducible first | exact HB.out | apply ba | apply bn | apply bd | refine bs (by assumption) ?_) | exact HB.out⟩⟩
 clear HC3
 try clear c1
 try clear p2
 try clear c4
 try clear c4b0
 try clear c4b1
 try clear p2
 obtain ⟨kq, x14_2, rfl, HA, HJ2, HO_5, HB⟩ := hcut
 cases kq with
 | zero => exact absurd HA.out (by simp [columbariumlaw14_Moves.j1])
 | succ kj2 => ?_
 have H := HA.out
 clear HA
 simp only [columbariumlaw14_Moves.j1] at H
 by_cases c5 : x14_2 = true
 rotate_left
 ·replace c5 := Bool.eq_false_iff.mpr c5
  subst c5
  have H1 : (some x5_1) = some r := by rw [if_neg (show ¬ (false = true) by decide)] at H; exact H
  clear H
  have H := H1
  clear H1
  obtain rfl := Option.some.inj H
  go_wp2
  go_ret
  exact ⟨_, by first | rfl | (simp <;> rfl) | (simp [*] <;> rfl), by (with_reducible repeat first | apply ra | apply rn | apply rd); exact HO_5.out, by repeat first | (with_reducible first | exact HB.out | apply ba | apply bn | apply bd | refine bs (by assumption) ?_) | exact HB.out⟩
 subst c5
 have H1 : (if 0 ≤ x6_1 then (if x6_1 < (l0.length : Int) then ((columbariumlaw14_pick.f ((rd_T67 l0 x6_1).f0) 5).bind fun tz2 => (if tz2 = 0 then (if x5_1.length < 4398046511104 then (columbariumlaw14_Moves.l0 kj2 l0 a1 (x5_1 ++ [(⟨true, 0, (⟨#[]⟩ : ByteArray)⟩ : S24)]) (wrap64 (x6_1 + 1))) else (none)) else ((columbariumlaw14_pick.f ((rd_T67 l0 x6_1).f1) a1).bind fun tz7 => ((columbariumlaw14_Bytes.f kj2 ((rd_T67 l0 x6_1).f2)).bind fun tz9 => (if x5_1.length < 4398046511104 then (columbariumlaw14_Moves.l0 kj2 l0 a1 (x5_1 ++ [(⟨false, tz7, tz9⟩ : S24)]) (wrap64 (x6_1 + 1))) else (none)))))) else (none)) else (none)) = some r := by rw [if_pos rfl] at H; exact H
 clear H
 have H := H1
 clear H1
 by_cases c6 : 0 ≤ x6_1
 rotate_left
 ·rw [if_neg c6] at H
  exact absurd H (by simp)
 rw [if_pos c6] at H
 have c6b0 : decide (0 ≤ x6_1) = true := decide_eq_true c6
 clear c6
 by_cases c7 : x6_1 < (l0.length : Int)
 rotate_left
 ·rw [if_neg c7] at H
  exact absurd H (by simp)
 rw [if_pos c7] at H
 have c7b0 : decide (x6_1 < (l0.length : Int)) = true := decide_eq_true c7
 clear c7
 replace H := ob_ H
 obtain ⟨tz2, A80, H⟩ := H
 replace H : (if tz2 = 0 then (if x5_1.length < 4398046511104 then (columbariumlaw14_Moves.l0 kj2 l0 a1 (x5_1 ++ [(⟨true, 0, (⟨#[]⟩ : ByteArray)⟩ : S24)]) (wrap64 (x6_1 + 1))) else (none)) else ((columbariumlaw14_pick.f ((rd_T67 l0 x6_1).f1) a1).bind fun tz7 => ((columbariumlaw14_Bytes.f kj2 ((rd_T67 l0 x6_1).f2)).bind fun tz9 => (if x5_1.length < 4398046511104 then (columbariumlaw14_Moves.l0 kj2 l0 a1 (x5_1 ++ [(⟨false, tz7, tz9⟩ : S24)]) (wrap64 (x6_1 + 1))) else (none))))) = some r := H
 have A8 := Aside0.mk A80
 clear A80
 by_cases c9 : tz2 = 0
 ·rw [if_pos c9] at H
  have c9b0 : (tz2 == 0) = true := beq_iff_eq.mpr c9
  have c9b1 : (tz2 != 0) = false := bne_eq_false_iff_eq.mpr c9
  clear c9
  by_cases c10 : x5_1.length < 4398046511104
  rotate_left
  ·rw [if_neg c10] at H
   exact absurd H (by simp)
  rw [if_pos c10] at H
  have LMc10 := Aside0.mk c10
  clear c10
  obtain ⟨yz3, hyz3⟩ : ∃ y_ : List (S24), y_ = (x5_1 ++ [(⟨true, 0, (⟨#[]⟩ : ByteArray)⟩ : S24)]) := ⟨_, rfl⟩
  replace H : (columbariumlaw14_Moves.l0 kj2 l0 a1 yz3 (wrap64 (x6_1 + 1))) = some r := by first | (rw [hyz3]; with_reducible exact H) | (have H2_ := (Option.bind_some _ _).symm.trans H; rw [hyz3]; with_reducible exact H2_) | (have H2_ := (Option.bind_some _ _).symm.trans H; with_reducible exact H2_) | with_reducible exact H | (rw [hyz3]; exact H) | exact H
  have Nyz3 := am hyz3
  clear hyz3
  have H' := am H
  clear H
  have pz1 : 0 ≤ (x6_1 : Int) := of_decide_eq_true (by first | (with_reducible assumption) | assumption)
  have qz1 : x6_1 < (l0.length : Int) := of_decide_eq_true (by first | (with_reducible assumption) | assumption)
  obtain ⟨adz1, ez1, hxz1_0, hxz1_1, hxz1_2⟩ := at_T67 HR0.out x6_1 pz1 qz1
  cases ez1
  replace hxz1_0 := (HB.out.cell (World.block_lt_of_cell? w _ hxz1_0)).trans hxz1_0
  replace hxz1_1 := (HB.out.cell (World.block_lt_of_cell? w _ hxz1_1)).trans hxz1_1
  replace hxz1_2 := (HB.out.cell (World.block_lt_of_cell? w _ hxz1_2)).trans hxz1_2
  replace pz1 := eq_true pz1
  replace qz1 := eq_true qz1
  go_wp2_with (first | ((with_reducible refine gate_callee (f := 16) rfl ?_); refine goesL_ (some 22) rfl rfl Try.func16 (by kernel_rfl) rfl #[.int .i64 ((rd_T67 l0 x6_1).f0), .int .i64 5] rfl (by (try simp only [List.map_toArray, List.map_cons, List.map_nil]) <;> rfl) ?_; (with_reducible refine (columbariumlaw14_pick.calls ((rd_T67 l0 x6_1).f0) 5 tz2 _ A8.out).mono ?_); rintro e w' ⟨rfl, ⟨nd, rfl⟩⟩; refine ⟨_, rfl, ?_⟩) | ((with_reducible refine gate_builtin (b := .append) (xs := #[.tmp 24, .tmp 26]) rfl ?_); at_builtin; refine Kd.R_append k24 (w0 := w) w.heap.size rfl (.tmp 24) (.tmp 26) 28 24 (.agg #[(.bool false), (.int .i64 0), (.string ⟨#[]⟩)]) 32 rfl Try.underlying28 info24 rfl (by decide) (by omega) u5 x5_1 (⟨true, 0, (⟨#[]⟩ : ByteArray)⟩ : S24) [.bool true, .int .i64 0, .string (⟨#[]⟩ : ByteArray)] (fun _ => True) (fun _ => False) rfl rfl ?aP (fun _ hk => hk.elim) ?aF ?aO ?aB ?aS ?aL ?_; (case aP => exact k24_mkM _ _ _ (⟨true, 0, (⟨#[]⟩ : ByteArray)⟩ : S24)); (case aB => exact (pb HB)); (case aF => exact (fun _ _ => trivial)); (case aO => exact (pr HO_5)); (case aS => exact (below_size (pb HB))); (case aL => have := LMc10.out; omega); intro vz4 w11 ho hb hg hat; rw [← Nyz3.out] at ho; have n0_ := am (hb); have n1_ := am (ho); clear HB; clear HO_5; have HB := n0_; have HOz5 := n1_; clear n0_ n1_; clear ho hb hg hat))
  go_roundg kj2
  case measure => have := HK1.out; have := HJ2.out; omega
  case rel => exact ⟨(yz3), (wrap64 (x6_1 + 1)), (by first | rfl | (simp; done) | (simp [*]; done)), H', ⟨by have := HK1.out; have := HJ2.out; omega⟩, ⟨by (with_reducible repeat first | apply ra | apply rn | apply rd); exact HOz5.out⟩, ⟨by repeat first | (with_reducible first | exact HB.out | apply ba | apply bn | apply bd | refine bs (by assumption) ?_) | exact HB.out⟩⟩
 rw [if_neg c9] at H
 have c9b0 : (tz2 == 0) = false := beq_eq_false_iff_ne.mpr c9
 have c9b1 : (tz2 != 0) = true := bne_iff_ne.mpr c9
 replace H := ob_ H
 obtain ⟨tz7, A120, H⟩ := H
 replace H : ((columbariumlaw14_Bytes.f kj2 ((rd_T67 l0 x6_1).f2)).bind fun tz9 => (if x5_1.length < 4398046511104 then (columbariumlaw14_Moves.l0 kj2 l0 a1 (x5_1 ++ [(⟨false, tz7, tz9⟩ : S24)]) (wrap64 (x6_1 + 1))) else (none))) = some r := H
 have A12 := Aside0.mk A120
 clear A120
 replace H := ob_ H
 obtain ⟨tz9, A130, H⟩ := H
 replace H : (if x5_1.length < 4398046511104 then (columbariumlaw14_Moves.l0 kj2 l0 a1 (x5_1 ++ [(⟨false, tz7, tz9⟩ : S24)]) (wrap64 (x6_1 + 1))) else (none)) = some r := H
 have A13 := Aside0.mk A130
 clear A130
 by_cases c14 : x5_1.length < 4398046511104
 rotate_left
 ·rw [if_neg c14] at H
  exact absurd H (by simp)
 rw [if_pos c14] at H
 have LMc14 := Aside0.mk c14
 clear c14
 obtain ⟨yz10, hyz10⟩ : ∃ y_ : List (S24), y_ = (x5_1 ++ [(⟨false, tz7, tz9⟩ : S24)]) := ⟨_, rfl⟩
 replace H : (columbariumlaw14_Moves.l0 kj2 l0 a1 yz10 (wrap64 (x6_1 + 1))) = some r := by first | (rw [hyz10]; with_reducible exact H) | (have H2_ := (Option.bind_some _ _).symm.trans H; rw [hyz10]; with_reducible exact H2_) | (have H2_ := (Option.bind_some _ _).symm.trans H; with_reducible exact H2_) | with_reducible exact H | (rw [hyz10]; exact H) | exact H
 have Nyz10 := am hyz10
 clear hyz10
 have H' := am H
 clear H
 have pz1 : 0 ≤ (x6_1 : Int) := of_decide_eq_true (by first | (with_reducible assumption) | assumption)
 have qz1 : x6_1 < (l0.length : Int) := of_decide_eq_true (by first | (with_reducible assumption) | assumption)
 obtain ⟨adz1, ez1, hxz1_0, hxz1_1, hxz1_2⟩ := at_T67 HR0.out x6_1 pz1 qz1
 cases ez1
 replace hxz1_0 := (HB.out.cell (World.block_lt_of_cell? w _ hxz1_0)).trans hxz1_0
 replace hxz1_1 := (HB.out.cell (World.block_lt_of_cell? w _ hxz1_1)).trans hxz1_1
 replace hxz1_2 := (HB.out.cell (World.block_lt_of_cell? w _ hxz1_2)).trans hxz1_2
 replace pz1 := eq_true pz1
 replace qz1 := eq_true qz1
 try go_wp2_with (first | ((with_reducible refine gate_callee (f := 16) rfl ?_); refine goesL_ (some 22) rfl rfl Try.func16 (by kernel_rfl) rfl #[.int .i64 ((rd_T67 l0 x6_1).f0), .int .i64 5] rfl (by (try simp only [List.map_toArray, List.map_cons, List.map_nil]) <;> rfl) ?_; (with_reducible refine (columbariumlaw14_pick.calls ((rd_T67 l0 x6_1).f0) 5 tz2 _ A8.out).mono ?_); rintro e w' ⟨rfl, ⟨nd, rfl⟩⟩; refine ⟨_, rfl, ?_⟩))
 (try (rw [drewN_self wc]; generalize hq_ : World.drewN wc _ = wc; have n0_ : Aside0 (Kd.R k24 24 wc w.heap.size (fun _ => True) u5 x5_1) := ⟨by rw [← hq_]; exact (pr HO_5)⟩; have n1_ : Aside0 (Below w.heap.size w wc) := ⟨by rw [← hq_]; exact (pb HB)⟩; clear HO_5 HB hq_; have HO_5 := n0_; have HB := n1_; clear n0_ n1_))
 have n0_ := am (Kd.R_drew HO_5.out)
 have n1_ := am (below_drew1 HB.out)
 clear HO_5 HB; have HO_5 := n0_; have HB := n1_; clear n0_ n1_
 have pz6 : 0 ≤ (x6_1 : Int) := of_decide_eq_true (by first | (with_reducible assumption) | assumption)
 have qz6 : x6_1 < (l0.length : Int) := of_decide_eq_true (by first | (with_reducible assumption) | assumption)
 obtain ⟨adz6, ez6, hxz6_0, hxz6_1, hxz6_2⟩ := at_T67 HR0.out x6_1 pz6 qz6
 have hwz6_2 := hxz6_2
 have hwz6_1 := hxz6_1
 have hwz6_0 := hxz6_0
 obtain rfl : adz1 = adz6 := (by injection ez6)
 replace hxz6_0 := (HB.out.cell (World.block_lt_of_cell? w _ hxz6_0)).trans hxz6_0
 replace hxz6_1 := (HB.out.cell (World.block_lt_of_cell? w _ hxz6_1)).trans hxz6_1
 replace hxz6_2 := (HB.out.cell (World.block_lt_of_cell? w _ hxz6_2)).trans hxz6_2
 replace pz6 := eq_true pz6
 replace qz6 := eq_true qz6
 have pz8 : 0 ≤ (x6_1 : Int) := of_decide_eq_true (by first | (with_reducible assumption) | assumption)
 have qz8 : x6_1 < (l0.length : Int) := of_decide_eq_true (by first | (with_reducible assumption) | assumption)
 obtain ⟨adz8, ez8, hxz8_0, hxz8_1, hxz8_2⟩ := at_T67 HR0.out x6_1 pz8 qz8
 have hwz8_2 := hxz8_2
 have hwz8_1 := hxz8_1
 have hwz8_0 := hxz8_0
 obtain rfl : adz1 = adz8 := (by injection ez8)
 replace hxz8_0 := (HB.out.cell (World.block_lt_of_cell? w _ hxz8_0)).trans hxz8_0
 replace hxz8_1 := (HB.out.cell (World.block_lt_of_cell? w _ hxz8_1)).trans hxz8_1
 replace hxz8_2 := (HB.out.cell (World.block_lt_of_cell? w _ hxz8_2)).trans hxz8_2
 replace pz8 := eq_true pz8
 replace qz8 := eq_true qz8
 refine start_ (n := 18) (S := fun w' => w'.cell? (adz1.add ((x6_1).toNat * 3)) = some (.int .i64 ((rd_T67 l0 x6_1).f0)) ∧ w'.cell? ⟨(adz1.add ((x6_1).toNat * 3)).block, (adz1.add ((x6_1).toNat * 3)).off + 1, none⟩ = some (.int .i64 ((rd_T67 l0 x6_1).f1)) ∧ w'.cell? ⟨(adz1.add ((x6_1).toNat * 3)).block, (adz1.add ((x6_1).toNat * 3)).off + 2, none⟩ = some (.int .i64 ((rd_T67 l0 x6_1).f2)) ∧ w'.cell? (adz1.add ((x6_1).toNat * 3)) = some (.int .i64 ((rd_T67 l0 x6_1).f0)) ∧ w'.cell? ⟨(adz1.add ((x6_1).toNat * 3)).block, (adz1.add ((x6_1).toNat * 3)).off + 1, none⟩ = some (.int .i64 ((rd_T67 l0 x6_1).f1)) ∧ w'.cell? ⟨(adz1.add ((x6_1).toNat * 3)).block, (adz1.add ((x6_1).toNat * 3)).off + 2, none⟩ = some (.int .i64 ((rd_T67 l0 x6_1).f2))) (ds := []) #[false, false, false, false, false, false, false, false, false, false, false, false, false, false, false, false, false, false] (by kernel_rfl) rfl rfl ⟨((HB.out.cell (World.block_lt_of_cell? w _ hwz6_0)).trans hwz6_0), ((HB.out.cell (World.block_lt_of_cell? w _ hwz6_1)).trans hwz6_1), ((HB.out.cell (World.block_lt_of_cell? w _ hwz6_2)).trans hwz6_2), ((HB.out.cell (World.block_lt_of_cell? w _ hwz8_0)).trans hwz8_0), ((HB.out.cell (World.block_lt_of_cell? w _ hwz8_1)).trans hwz8_1), ((HB.out.cell (World.block_lt_of_cell? w _ hwz8_2)).trans hwz8_2)⟩ (fun hHeld => ?_); refine with_tabW columbariumlaw14_Moves.tab7 columbariumlaw14_Moves.bits7 (fun HT_ HW_ => ?_)
 generalize wc.drew = w15 at HO_5 HB hxz6_0 hxz6_1 hxz6_2 hxz8_0 hxz8_1 hxz8_2 hHeld ⊢
 refine pu_ 0 (some 28) HT_ rfl rfl (.inl ⟨by rfl, by intro w'; go_simp; with_reducible rfl⟩) (by simp only [Act.put, sa_, s0_, s1_, i64_w, i32_w]; rfl) ?_
 refine pu_ 1 (some 29) HT_ rfl rfl (.inl ⟨by rfl, by intro w'; go_simp; with_reducible rfl⟩) (by simp only [Act.put, sa_, s0_, s1_, i64_w, i32_w]; rfl) ?_
 refine pu_ 2 (some 30) HT_ rfl rfl (.inl ⟨by rfl, by intro w'; go_simp; with_reducible rfl⟩) (by simp only [Act.put, sa_, s0_, s1_, i64_w, i32_w]; rfl) ?_
 refine pu_ 3 (some 31) HT_ rfl rfl (.inl ⟨by rfl, by intro w'; go_simp; with_reducible rfl⟩) (by simp only [Act.put, sa_, s0_, s1_, i64_w, i32_w]; rfl) ?_
 refine pu_ 4 (some 32) HT_ rfl rfl (.inl ⟨by rfl, by intro w'; go_simp; with_reducible rfl⟩) (by simp only [Act.put, sa_, s0_, s1_, i64_w, i32_w]; rfl) ?_
 refine pu_ 6 (some 34) HT_ rfl rfl (.inl ⟨by rfl, by intro w'; go_simp; with_reducible rfl⟩) (by simp only [Act.put, sa_, s0_, s1_, i64_w, i32_w]; rfl) ?_
 refine pu_ 8 (some 36) HT_ rfl rfl (.inl ⟨by rfl, by intro w'; go_simp; with_reducible rfl⟩) (by simp only [Act.put, sa_, s0_, s1_, i64_w, i32_w]; rfl) ?_
 refine pu_ 9 (some 37) HT_ rfl rfl (.inl ⟨by rfl, by intro w'; go_simp; with_reducible rfl⟩) (by simp only [Act.put, sa_, s0_, s1_, i64_w, i32_w]; rfl) ?_
 refine pu_ 10 (some 38) HT_ rfl rfl (.inl ⟨by rfl, by intro w'; go_simp; with_reducible rfl⟩) (by simp only [Act.put, sa_, s0_, s1_, i64_w, i32_w]; rfl) ?_
 refine pu_ 11 (some 39) HT_ rfl rfl (.inl ⟨by rfl, by intro w'; go_simp; with_reducible rfl⟩) (by simp only [Act.put, sa_, s0_, s1_, i64_w, i32_w]; rfl) ?_
 refine tk_ 5 (some 33) HT_ HW_ rfl rfl (.inl ⟨by rfl, by rintro w' ⟨s0, s1, s2, s3, s4, s5⟩; go_simp; with_reducible rfl⟩) hHeld (by simp only [Act.put, sa_, s0_, s1_, i64_w, i32_w]; rfl) ?_
 refine tk_ 12 (some 40) HT_ HW_ rfl rfl (.inl ⟨by rfl, by rintro w' ⟨s0, s1, s2, s3, s4, s5⟩; go_simp; with_reducible rfl⟩) hHeld (by simp only [Act.put, sa_, s0_, s1_, i64_w, i32_w]; rfl) ?_
 refine on_ 7 (some 35) HT_ rfl rfl (fun K hK => ?_)
 refine goes_ Try.func16 (by kernel_rfl) rfl #[.int .i64 ((rd_T67 l0 x6_1).f1), .int .i64 a1] (by rfl) rfl rfl (by (try simp only [List.map_toArray, List.map_cons, List.map_nil]) <;> rfl) ?_
 with_reducible refine (columbariumlaw14_pick.calls ((rd_T67 l0 x6_1).f1) a1 tz7 _ A12.out).mono ?_
 rintro e w' ⟨rfl, ⟨nd, rfl⟩⟩
 refine ⟨_, rfl, ?_⟩
 refine hK.out _ _ ⟨((HB.out.cell (World.block_lt_of_cell? w _ hwz6_0)).trans hwz6_0), ((HB.out.cell (World.block_lt_of_cell? w _ hwz6_1)).trans hwz6_1), ((HB.out.cell (World.block_lt_of_cell? w _ hwz6_2)).trans hwz6_2), ((HB.out.cell (World.block_lt_of_cell? w _ hwz8_0)).trans hwz8_0), ((HB.out.cell (World.block_lt_of_cell? w _ hwz8_1)).trans hwz8_1), ((HB.out.cell (World.block_lt_of_cell? w _ hwz8_2)).trans hwz8_2)⟩ (fun hHeld => ?_)
 clear hK K
 refine norm_ (by show Act.put _ (some 35) _ = _; simp only [Act.put, sa_, s0_, s1_, i64_w, i32_w]; rfl) ?_
 refine on_ 13 (some 41) HT_ rfl rfl (fun K hK => ?_)
 refine goes_ Try.func24 (by kernel_rfl) rfl #[.int .i64 ((rd_T67 l0 x6_1).f2)] (by rfl) rfl rfl (by (try simp only [List.map_toArray, List.map_cons, List.map_nil]) <;> rfl) ?_
 with_reducible refine (columbariumlaw14_Bytes.calls kj2 ((rd_T67 l0 x6_1).f2) tz9 _ A13.out).mono ?_
 rintro e w16 ⟨rfl, hb⟩
 refine ⟨_, rfl, ?_⟩
 have n0_ := am (Kd.R_below (pr HO_5) hb)
 have n1_ := am (below_step (pb HB) hb)
 clear HO_5 HB; have HO_5 := n0_; have HB := n1_; clear n0_ n1_; refine hK.out _ _ ⟨((HB.out.cell (World.block_lt_of_cell? w _ hwz6_0)).trans hwz6_0), ((HB.out.cell (World.block_lt_of_cell? w _ hwz6_1)).trans hwz6_1), ((HB.out.cell (World.block_lt_of_cell? w _ hwz6_2)).trans hwz6_2), ((HB.out.cell (World.block_lt_of_cell? w _ hwz8_0)).trans hwz8_0), ((HB.out.cell (World.block_lt_of_cell? w _ hwz8_1)).trans hwz8_1), ((HB.out.cell (World.block_lt_of_cell? w _ hwz8_2)).trans hwz8_2)⟩ (fun hHeld => ?_)
 clear hK K
 refine norm_ (by show Act.put _ (some 41) _ = _; simp only [Act.put, sa_, s0_, s1_, i64_w, i32_w]; rfl) ?_
 refine pu_ 14 (some 42) HT_ rfl rfl (.inl ⟨by rfl, by intro w'; go_simp; with_reducible rfl⟩) (by simp only [Act.put, sa_, s0_, s1_, i64_w, i32_w]; rfl) ?_
 refine on_ 15 (some 43) HT_ rfl rfl (fun K hK => ?_)
 refine value_ (w1 := ?_) (v := ?_) (by rfl) rfl ?_ ?_
 rotate_left 2
 ·go_simp
  constructor
  rotate_left
  ·rfl
  rfl
 refine hK.out _ _ ⟨(World.cell?_alloc_lt _ _ _ (World.block_lt_of_cell? _ _ (((HB.out.cell (World.block_lt_of_cell? w _ hwz6_0)).trans hwz6_0)))).trans (((HB.out.cell (World.block_lt_of_cell? w _ hwz6_0)).trans hwz6_0)), (World.cell?_alloc_lt _ _ _ (World.block_lt_of_cell? _ _ (((HB.out.cell (World.block_lt_of_cell? w _ hwz6_1)).trans hwz6_1)))).trans (((HB.out.cell (World.block_lt_of_cell? w _ hwz6_1)).trans hwz6_1)), (World.cell?_alloc_lt _ _ _ (World.block_lt_of_cell? _ _ (((HB.out.cell (World.block_lt_of_cell? w _ hwz6_2)).trans hwz6_2)))).trans (((HB.out.cell (World.block_lt_of_cell? w _ hwz6_2)).trans hwz6_2)), (World.cell?_alloc_lt _ _ _ (World.block_lt_of_cell? _ _ (((HB.out.cell (World.block_lt_of_cell? w _ hwz8_0)).trans hwz8_0)))).trans (((HB.out.cell (World.block_lt_of_cell? w _ hwz8_0)).trans hwz8_0)), (World.cell?_alloc_lt _ _ _ (World.block_lt_of_cell? _ _ (((HB.out.cell (World.block_lt_of_cell? w _ hwz8_1)).trans hwz8_1)))).trans (((HB.out.cell (World.block_lt_of_cell? w _ hwz8_1)).trans hwz8_1)), (World.cell?_alloc_lt _ _ _ (World.block_lt_of_cell? _ _ (((HB.out.cell (World.block_lt_of_cell? w _ hwz8_2)).trans hwz8_2)))).trans (((HB.out.cell (World.block_lt_of_cell? w _ hwz8_2)).trans hwz8_2))⟩ (fun hHeld => ?_)
 clear hK K
 refine norm_ (by show Act.put _ (some 43) _ = _; simp only [Act.put, sa_, s0_, s1_, i64_w, i32_w]; rfl) ?_
 refine on_ 16 (some 44) HT_ rfl rfl (fun K hK => ?_)
 refine Kd.R_append_step k24 (w0 := w) w.heap.size (by rfl) (.tmp 28) (.tmp 43) 28 24 (.agg #[(.bool false), (.int .i64 0), (.string ⟨#[]⟩)]) 32 rfl Try.underlying28 info24 rfl (by decide) (by omega) u5 x5_1 (⟨false, tz7, tz9⟩ : S24) [.bool false, .int .i64 tz7, .string tz9] (fun _ => True) (fun _ => False) rfl rfl ?aP (fun _ hk => hk.elim) ?aF ?aO ?aB ?aS ?aL ?_
 (case aP => exact k24_mkM _ _ _ (⟨false, tz7, tz9⟩ : S24))
 (case aB => exact (pb HB))
 (case aF => exact (fun _ _ => trivial))
 (case aO => exact (pr HO_5))
 (case aS => exact (below_size (pb HB)))
 (case aL => have := LMc14.out; omega)
 intro vz11 w17 ho hb hg hat
 rw [← Nyz10.out] at ho
 have n0_ := am (hb)
 have n1_ := am (ho)
 clear HB HO_5; have HB := n0_; have HOz12 := n1_; clear n0_ n1_; clear ho hb hg hat
 refine hK.out _ _ ⟨((HB.out.cell (World.block_lt_of_cell? w _ hwz6_0)).trans hwz6_0), ((HB.out.cell (World.block_lt_of_cell? w _ hwz6_1)).trans hwz6_1), ((HB.out.cell (World.block_lt_of_cell? w _ hwz6_2)).trans hwz6_2), ((HB.out.cell (World.block_lt_of_cell? w _ hwz8_0)).trans hwz8_0), ((HB.out.cell (World.block_lt_of_cell? w _ hwz8_1)).trans hwz8_1), ((HB.out.cell (World.block_lt_of_cell? w _ hwz8_2)).trans hwz8_2)⟩ (fun hHeld => ?_)
 clear hK K
 refine norm_ (by show Act.put _ (some 44) _ = _; simp only [Act.put, sa_, s0_, s1_, i64_w, i32_w]; rfl) ?_
 refine pu_ 17 (some 5) HT_ rfl rfl (.inl ⟨by rfl, by intro w'; go_simp; with_reducible rfl⟩) (by simp only [Act.put, sa_, s0_, s1_, i64_w, i32_w]; rfl) ?_
 refine done_ (done_of HT_.out (by kernel_rfl)) ?_
 try go_wp2
 go_roundg kj2
 case measure => have := HK1.out; have := HJ2.out; omega
 case rel => exact ⟨(yz10), (wrap64 (x6_1 + 1)), (by first | rfl | (simp; done) | (simp [*]; done)), H', ⟨by have := HK1.out; have := HJ2.out; omega⟩, ⟨by (with_reducible repeat first | apply ra | apply rn | apply rd); exact HOz12.out⟩, ⟨by repeat first | (with_reducible first | exact HB.out | apply ba | apply bn | apply bd | refine bs (by assumption) ?_) | exact HB.out⟩⟩

end Go.Proofs.Ytcfinlmocgbnbaa.Pr
end
