-- Written by wip/tools/xprint.py, a patched run of the kit's print: not typed by hand.
import Derived.Test.YtcfinlmocgbnbaaXSq
import Derived.Test.YtcfinlmocgbnbaaPr0
import Derived.Test.YtcfinlmocgbnbaaPrFcolumbariumlaw14pick
namespace Go.Proofs.Ytcfinlmocgbnbaa.Pr
open Go.Proofs.Ytcfinlmocgbnbaa.Sq Go.RowKit Go.Proofs.YtcfinlmocgbnbaaW.PrintWords Go.Proofs.YtcfinlmocgbnbaaW.PrintLast Go.Proofs.YtcfinlmocgbnbaaW.PrintMore
attribute [local go_sem] max2_int min2_int max_two min_two max_three min_three max_four min_four   -- for this text's walks alone
set_option linter.unusedVariables false
set_option linter.unusedSimpArgs false

/-! ### columbariumlaw14_Bytes: function 24 -/
def columbariumlaw14_Bytes.l0 : Nat → Int → List Int → Int → Option (ByteArray)
 | 0, _, _, _ => none
 | k + 1, x0, x3, x4 => if x4 < 64 then ((columbariumlaw14_pick.f x0 250).bind fun tz1 => (if x3.length < 140737488355328 then (columbariumlaw14_Bytes.l0 k x0 (x3 ++ [(wrap64 (tz1 + (Int.tmod x4 5))) % 256]) (wrap64 (x4 + 1))) else (none))) else (some (strOfNums x3))
def columbariumlaw14_Bytes.f (k : Nat) (a0 : Int) : Option (ByteArray) := columbariumlaw14_Bytes.l0 k a0 ([] : List Int) 0
theorem columbariumlaw14_Bytes.mono_l : ∀ k, (∀ y0 y1 y2, LeO (columbariumlaw14_Bytes.l0 k y0 y1 y2) (columbariumlaw14_Bytes.l0 (k + 1) y0 y1 y2))
 | 0 => fun _ _ _ r h => by simp [columbariumlaw14_Bytes.l0] at h
 | k + 1 => by
  have ih0 := columbariumlaw14_Bytes.mono_l k
  ·intro y0 y1 y2
   unfold columbariumlaw14_Bytes.l0
   repeat' first
   | (with_reducible exact ih0 _ _ _)
   | (with_reducible exact LeO.refl _)
   | (with_reducible exact LeO.none _)
   | (with_reducible refine LeO.ite ?_ ?_)
   | (with_reducible refine LeO.bind ?_ (fun _ => ?_))
   | exact ih0 _ _ _
   | exact LeO.none _
   | refine LeO.ite ?_ ?_
   | refine LeO.bind ?_ (fun _ => ?_)
theorem columbariumlaw14_Bytes.mono : ∀ a0 k, LeO (columbariumlaw14_Bytes.f k a0) (columbariumlaw14_Bytes.f (k + 1) a0) := by
 intro a0 k
 have ih0 := columbariumlaw14_Bytes.mono_l k
 unfold columbariumlaw14_Bytes.f
 repeat' first
  | (with_reducible exact ih0 _ _ _)
  | (with_reducible exact LeO.refl _)
  | (with_reducible exact LeO.none _)
  | (with_reducible refine LeO.ite ?_ ?_)
  | (with_reducible refine LeO.bind ?_ (fun _ => ?_))
  | exact ih0 _ _ _
  | exact LeO.none _
  | refine LeO.ite ?_ ?_
  | refine LeO.bind ?_ (fun _ => ?_)
set_option maxHeartbeats 8000000 in
set_option maxRecDepth 100000 in
theorem columbariumlaw14_Bytes.calls (k : Nat) (a0 : Int) (r : ByteArray) (w : World) (h : columbariumlaw14_Bytes.f k a0 = some r) :
  Calls Try.prog 24 #[.int .i64 a0] w fun e w' => e = .returned (.string r) ∧ Below w.heap.size w w' := by
 have HB := am (Below.refl w.heap.size w)
 have H : (columbariumlaw14_Bytes.l0 k a0 ([] : List Int) 0) = some r := h
 clear h
 have H' := am H
 clear H
 go_enter Try.func24, Try.ntmps24
 go_wp2
 go_loopg [3, 4] k (fun kq v3 v4 w' => ∃ (x3_1 : List Int) (x4_1 : Int), v4 = .int .i64 x4_1 ∧ Aside0 (columbariumlaw14_Bytes.l0 kq a0 x3_1 x4_1 = some r) ∧ Aside0 (kq ≤ k) ∧ Aside0 (Kd.R (Kd.int .u8) 5 w' w.heap.size (fun _ => True) v3 x3_1) ∧ Aside0 (Below w.heap.size w w'))
 case atStart => exact ⟨(([] : List Int)), (0), (by first | rfl | (simp; done) | (simp [*]; done)), H', ⟨Nat.le_refl _⟩, ⟨by exact Kd.R_nil _ _ _ _ _⟩, ⟨by repeat first | (with_reducible first | exact HB.out | apply ba | apply bn | apply bd | refine bs (by assumption) ?_) | exact HB.out⟩⟩
 clear H'
 obtain ⟨x3_1, x4_1, rfl, HA, HK1, HO_3, HB⟩ := hrel
 cases gk with
 | zero => exact absurd HA.out (by simp [columbariumlaw14_Bytes.l0])
 | succ k1 => ?_
 have H := HA.out
 clear HA
 simp only [columbariumlaw14_Bytes.l0] at H
 by_cases c2 : x4_1 < 64
 rotate_left
 ·rw [if_neg c2] at H
  have c2b0 : decide (x4_1 < 64) = false := decide_eq_false c2
  clear c2
  obtain rfl := Option.some.inj H
  have hcv6 := own_string (P := Try.prog) Try.underlying49 Try.underlying5 Try.underlying9 (Kd.own_of_R HO_3.out)
  go_wp2
  go_ret
  exact ⟨by first | rfl | (simp <;> rfl) | (simp [*] <;> rfl), by repeat first | (with_reducible first | exact HB.out | apply ba | apply bn | apply bd | refine bs (by assumption) ?_) | exact HB.out⟩
 rw [if_pos c2] at H
 have c2b0 : decide (x4_1 < 64) = true := decide_eq_true c2
 clear c2
 replace H := ob_ H
 obtain ⟨tz1, A30, H⟩ := H
 replace H : (if x3_1.length < 140737488355328 then (columbariumlaw14_Bytes.l0 k1 a0 (x3_1 ++ [(wrap64 (tz1 + (Int.tmod x4_1 5))) % 256]) (wrap64 (x4_1 + 1))) else (none)) = some r := H
 have A3 := Aside0.mk A30
 clear A30
 by_cases c4 : x3_1.length < 140737488355328
 rotate_left
 ·rw [if_neg c4] at H
  exact absurd H (by simp)
 rw [if_pos c4] at H
 have LMc4 := Aside0.mk c4
 clear c4
 obtain ⟨yz2, hyz2⟩ : ∃ y_ : List Int, y_ = (x3_1 ++ [(wrap64 (tz1 + (Int.tmod x4_1 5))) % 256]) := ⟨_, rfl⟩
 replace H : (columbariumlaw14_Bytes.l0 k1 a0 yz2 (wrap64 (x4_1 + 1))) = some r := by first | (rw [hyz2]; with_reducible exact H) | (have H2_ := (Option.bind_some _ _).symm.trans H; rw [hyz2]; with_reducible exact H2_) | (have H2_ := (Option.bind_some _ _).symm.trans H; with_reducible exact H2_) | with_reducible exact H | (rw [hyz2]; exact H) | exact H
 have Nyz2 := am hyz2
 clear hyz2
 have H' := am H
 clear H
 go_wp2_with (first | ((with_reducible refine gate_callee (f := 16) rfl ?_); refine goesL_ (some 11) rfl rfl Try.func16 (by kernel_rfl) rfl #[.int .i64 a0, .int .i64 250] rfl (by (try simp only [List.map_toArray, List.map_cons, List.map_nil]) <;> rfl) ?_; (with_reducible refine (columbariumlaw14_pick.calls a0 250 tz1 _ A3.out).mono ?_); rintro e w' ⟨rfl, ⟨nd, rfl⟩⟩; refine ⟨_, rfl, ?_⟩) | ((with_reducible refine gate_builtin (b := .append) (xs := #[.tmp 9, .tmp 16]) rfl ?_); at_builtin; refine Kd.R_append (Kd.int .u8) (w0 := w) w.heap.size rfl (.tmp 9) (.tmp 16) 49 5 (.int .u8 0) 1 rfl Try.underlying49 info5 rfl (by decide) (by omega) u3 x3_1 ((wrap64 (tz1 + (Int.tmod x4_1 5))) % 256) [.int .u8 ((wrap64 (tz1 + (Int.tmod x4_1 5))) % 256)] (fun _ => True) (fun _ => False) rfl rfl ?aP (fun _ hk => hk.elim) ?aF ?aO ?aB ?aS ?aL ?_; (case aP => exact rfl); (case aB => exact (pb HB)); (case aF => exact (fun _ _ => trivial)); (case aO => exact (pr HO_3)); (case aS => exact (below_size (pb HB))); (case aL => have := LMc4.out; omega); intro vz3 w5 ho hb hg hat; rw [← Nyz2.out] at ho; have n0_ := am (hb); have n1_ := am (ho); clear HB; clear HO_3; have HB := n0_; have HOz4 := n1_; clear n0_ n1_; clear ho hb hg hat))
 go_roundg k1
 case measure => have := HK1.out; omega
 case rel => exact ⟨(yz2), (wrap64 (x4_1 + 1)), (by first | rfl | (simp; done) | (simp [*]; done)), H', ⟨by have := HK1.out; omega⟩, ⟨by (with_reducible repeat first | apply ra | apply rn | apply rd); exact HOz4.out⟩, ⟨by repeat first | (with_reducible first | exact HB.out | apply ba | apply bn | apply bd | refine bs (by assumption) ?_) | exact HB.out⟩⟩

end Go.Proofs.Ytcfinlmocgbnbaa.Pr
