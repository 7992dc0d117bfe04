/-
  A part of what the row VaultCrashes reaches, laid together by a program of this session (wip/tools/shake.py) out of this seat's texts. No condition but the ones that each lemma names.
-/
import Derived.Lib.SliceRun
import Derived.Deep.Quiet
import Derived.StillTail
import Derived.Deep.QuietTactic
import Derived.Below
import Derived.OrdersIn
import Derived.TacticsIn
import Derived.OwnWalkIn
import Derived.RangeFuncCalls
import Derived.KernelRfl
import Derived.Shelf.Strings.Builder1
import Derived.Shelf.Strings.Builder2
import Derived.Shelf.Strings.BuilderF
import Derived.Shelf.Strings.BuilderK
import Derived.Shelf.Strings.Builder2Cap
import Derived.Shelf.Strings.Prefix
import Derived.Shelf.Bits.Mul64
import Derived.Shelf.Strings.Repeat
import Derived.Shelf.Strings.BuilderCap
import Derived.Test.YtcfinlmocgbnbaaProg
import Derived.Laws.CopyOwn
import Derived.Laws.CopyRow
import Derived.WalkKit
import Derived.Lib.Hide
import Derived.Outline
import Derived.Lib.ConvBytes
import Derived.Laws.BytesArg
import Derived.LoopTactic
import Derived.Test.YtcfinlmocgbnbaaZVaultCrashes0
import Derived.Test.YtcfinlmocgbnbaaZVaultCrashes1
set_option linter.unusedVariables false
set_option linter.unusedSimpArgs false
section
namespace Go.Proofs.Ytcfinlmocgbnbaa.Pr
open Go.Proofs.Ytcfinlmocgbnbaa.Sq Go.RowKit Go.Proofs.YtcfinlmocgbnbaaW.PrintWords Go.Proofs.YtcfinlmocgbnbaaW.PrintLast Go.Proofs.YtcfinlmocgbnbaaW.PrintMore
attribute [local go_sem] max2_int min2_int max_two min_two max_three min_three max_four min_four
set_option linter.unusedVariables false
set_option linter.unusedSimpArgs false
def vault_put_int.l0 : Nat → List Int → Int → Int → Option (List Int)
 | 0, _, _, _ => none
 | k + 1, x0, x1, x7 => if x7 ≥ 0 then (if 0 ≤ (wrap64 (8 * x7)) then (if x0.length < 140737488355328 then (vault_put_int.l0 k (x0 ++ [(shr .i64 x1 (wrap64 (8 * x7))) % 256]) x1 (wrap64 (x7 - 1))) else (none)) else (none)) else (some x0)
def vault_put_int.f (k : Nat) (l0 : List Int) (a1 : Int) (a2 : Int) : Option (List Int) := vault_put_int.l0 k l0 a1 (wrap64 (a2 - 1))
theorem vault_put_int.mono_l : ∀ k, (∀ y0 y1 y2, LeO (vault_put_int.l0 k y0 y1 y2) (vault_put_int.l0 (k + 1) y0 y1 y2))
 | 0 => fun _ _ _ r h => by simp [vault_put_int.l0] at h
 | k + 1 => by
  have ih0 := vault_put_int.mono_l k
  ·intro y0 y1 y2
   unfold vault_put_int.l0
   repeat' first
   | (with_reducible exact ih0 _ _ _)
   | (with_reducible exact LeO.refl _)
   | (with_reducible exact LeO.none _)
   | (with_reducible refine LeO.ite ?_ ?_)
   | (with_reducible refine LeO.bind ?_ (fun _ => ?_))
   | exact ih0 _ _ _
   | exact LeO.none _
   | refine LeO.ite ?_ ?_
   | refine LeO.bind ?_ (fun _ => ?_)
theorem vault_put_int.mono : ∀ a0 a1 a2 k, LeO (vault_put_int.f k a0 a1 a2) (vault_put_int.f (k + 1) a0 a1 a2) := by
 intro a0 a1 a2 k
 have ih0 := vault_put_int.mono_l k
 unfold vault_put_int.f
 repeat' first
  | (with_reducible exact ih0 _ _ _)
  | (with_reducible exact LeO.refl _)
  | (with_reducible exact LeO.none _)
  | (with_reducible refine LeO.ite ?_ ?_)
  | (with_reducible refine LeO.bind ?_ (fun _ => ?_))
  | exact ih0 _ _ _
  | exact LeO.none _
  | refine LeO.ite ?_ ?_
  | refine LeO.bind ?_ (fun _ => ?_)
set_option maxHeartbeats 8000000 in
set_option maxRecDepth 100000 in
theorem vault_put_int.calls (k : Nat) (P0_ : Nat → Prop) (u9000_ : Value) (l0 : List Int) (a1 : Int) (a2 : Int) (r : List Int) (w0 w : World) (hB : Below w0.heap.size w0 w) (ho0 : Kd.R (Kd.int .u8) 5 w w0.heap.size P0_ u9000_ l0) (h : vault_put_int.f k l0 a1 a2 = some r) :
  Calls Try.prog 78 #[u9000_, .int .i64 a1, .int .i64 a2] w fun e w' => ∃ v0_ : Value, e = .returned (v0_) ∧ Kd.R (Kd.int .u8) 5 w' w0.heap.size (fun k_ => (P0_ k_ ∨ w.heap.size ≤ k_)) v0_ r ∧ Below w0.heap.size w0 w' ∧ Kept w w' (fun k_ => P0_ k_) := by
 have HO0 := am (show Kd.R (Kd.int .u8) 5 w w0.heap.size (fun k_ => (P0_ k_ ∨ w.heap.size ≤ k_)) u9000_ l0 from Kd.R_mono ho0 (fun k_ hk => (.inl hk)))
 have HK := am (Kept.refl w (fun k_ => P0_ k_))
 have HW0 := am hB.size
 have HB := am hB
 clear hB
 have H : (vault_put_int.l0 k l0 a1 (wrap64 (a2 - 1))) = some r := h
 clear h
 have H' := am H
 clear H
 go_enter Try.func78, Try.ntmps78
 go_wp2
 go_loopg [0, 7] k (fun kq v0 v7 w' => ∃ (x0_1 : List Int) (x7_1 : Int), v7 = .int .i64 x7_1 ∧ Aside0 (vault_put_int.l0 kq x0_1 a1 x7_1 = some r) ∧ Aside0 (kq ≤ k) ∧ Aside0 (Kd.R (Kd.int .u8) 5 w' w0.heap.size (fun k_ => (P0_ k_ ∨ w.heap.size ≤ k_)) v0 x0_1) ∧ Aside0 (Kept w w' (fun k_ => P0_ k_)) ∧ Aside0 (Below w0.heap.size w0 w'))
 case atStart => exact ⟨(l0), (wrap64 (a2 - 1)), (by first | rfl | (simp; done) | (simp [*]; done)), H', ⟨Nat.le_refl _⟩, ⟨by (with_reducible repeat first | apply ra | apply rn | apply rd); exact HO0.out⟩, ⟨by repeat (first | (with_reducible first | exact HK.out | apply Kept.alloc | apply Kept.drewN | apply Kept.drew) | exact HK.out)⟩, ⟨by repeat first | (with_reducible first | exact HB.out | apply ba | apply bn | apply bd | refine bs (by assumption) ?_) | exact HB.out⟩⟩
 clear H'
 try clear p2
 obtain ⟨x0_1, x7_1, rfl, HA, HK1, HO_0, HK, HB⟩ := hrel
 cases gk with
 | zero => exact absurd HA.out (by simp [vault_put_int.l0])
 | succ k1 => ?_
 have H := HA.out
 clear HA
 simp only [vault_put_int.l0] at H
 by_cases c4 : x7_1 ≥ 0
 rotate_left
 ·rw [if_neg c4] at H
  have c4b0 : decide (0 ≤ x7_1) = false := decide_eq_false c4
  clear c4
  obtain rfl := Option.some.inj H
  go_wp2
  go_ret
  exact ⟨_, by first | rfl | (simp <;> rfl) | (simp [*] <;> rfl), by (with_reducible repeat first | apply ra | apply rn | apply rd); exact HO_0.out, by repeat first | (with_reducible first | exact HB.out | apply ba | apply bn | apply bd | refine bs (by assumption) ?_) | exact HB.out, by repeat (first | (with_reducible first | exact HK.out | apply Kept.alloc | apply Kept.drewN | apply Kept.drew) | exact HK.out)⟩
 rw [if_pos c4] at H
 have c4b0 : decide (0 ≤ x7_1) = true := decide_eq_true c4
 clear c4
 obtain ⟨ji5, hji5⟩ : ∃ j_ : Int, (wrap64 (8 * x7_1)) = j_ := ⟨_, rfl⟩
 replace H : (if 0 ≤ (ji5) then (if x0_1.length < 140737488355328 then (vault_put_int.l0 k1 (x0_1 ++ [(shr .i64 a1 (ji5)) % 256]) a1 (wrap64 (x7_1 - 1))) else (none)) else (none)) = some r := by first | (rw [hji5] at H; exact H) | (simp only [hji5] at H ⊢; exact H)
 have hji5w : (IntKind.i64.wrap (8 * x7_1)) = ji5 := (i64_w _).trans hji5
 by_cases c6 : 0 ≤ (ji5)
 rotate_left
 ·rw [if_neg c6] at H
  exact absurd H (by simp)
 rw [if_pos c6] at H
 have c6b0 := eq_true c6
 have c6b1 : decide (0 ≤ (ji5)) = true := decide_eq_true c6
 clear c6
 obtain ⟨ji7, hji7⟩ : ∃ j_ : Int, (shr .i64 a1 (ji5)) = j_ := ⟨_, rfl⟩
 replace H : (if x0_1.length < 140737488355328 then (vault_put_int.l0 k1 (x0_1 ++ [(ji7) % 256]) a1 (wrap64 (x7_1 - 1))) else (none)) = some r := by first | (rw [hji7] at H; exact H) | (simp only [hji7] at H ⊢; exact H)
 have hji7_ : (a1 / 2 ^ min (ji5).toNat 64) = ji7 := hji7
 have hji7z : (ji5) ≤ 64 → (a1 / 2 ^ (ji5).toNat) = ji7 := shr_small hji7
 by_cases c8 : x0_1.length < 140737488355328
 rotate_left
 ·rw [if_neg c8] at H
  exact absurd H (by simp)
 rw [if_pos c8] at H
 have LMc8 := Aside0.mk c8
 clear c8
 obtain ⟨yz1, hyz1⟩ : ∃ y_ : List Int, y_ = (x0_1 ++ [(ji7) % 256]) := ⟨_, rfl⟩
 replace H : (vault_put_int.l0 k1 yz1 a1 (wrap64 (x7_1 - 1))) = some r := by first | (rw [hyz1]; with_reducible exact H) | (have H2_ := (Option.bind_some _ _).symm.trans H; rw [hyz1]; with_reducible exact H2_) | (have H2_ := (Option.bind_some _ _).symm.trans H; with_reducible exact H2_) | with_reducible exact H | (rw [hyz1]; exact H) | exact H
 have Nyz1 := am hyz1
 clear hyz1
 have H' := am H
 clear H
 go_wp2_with (first | ((with_reducible refine gate_builtin (b := .append) (xs := #[.tmp 14, .tmp 20]) rfl ?_); at_builtin; refine Kd.R_append (Kd.int .u8) (w0 := w0) w0.heap.size rfl (.tmp 14) (.tmp 20) 49 5 (.int .u8 0) 1 rfl Try.underlying49 info5 rfl (by decide) (by omega) u0 x0_1 ((ji7) % 256) [.int .u8 ((ji7) % 256)] (fun k_ => (P0_ k_ ∨ w.heap.size ≤ k_)) (fun _ => False) rfl rfl ?aP (fun _ hk => hk.elim) ?aF ?aO ?aB ?aS ?aL ?_; (case aP => exact rfl); (case aB => exact (pb HB)); (case aF => exact (fun k_ hk => (.inr (Nat.le_trans (by first | exact HK.out.1 | exact (show Kept w _ (fun k_ => P0_ k_) from by repeat (first | (with_reducible first | exact HK.out | apply Kept.alloc | apply Kept.drewN | apply Kept.drew) | exact HK.out)).1) hk)))); (case aO => exact (pr HO_0)); (case aS => exact (below_size (pb HB))); (case aL => have := LMc8.out; omega); intro vz2 w9 ho hb hg hat; rw [← Nyz1.out] at ho; have n0_ := am (hb); have n1_ := am (Kept.of_grown (S := (fun k_ => P0_ k_)) hg (by repeat (first | (with_reducible first | exact HK.out | apply Kept.alloc | apply Kept.drewN | apply Kept.drew) | exact HK.out)) (fun k_ e_ => (HO_0.out.1 k_ e_))); have n2_ := am (ho); clear HB; clear HK; clear HO_0; have HB := n0_; have HK := n1_; have HOz3 := n2_; clear n0_ n1_ n2_; clear ho hb hg hat))
 go_roundg k1
 case measure => have := HK1.out; omega
 case rel => exact ⟨(yz1), (wrap64 (x7_1 - 1)), (by first | rfl | (simp; done) | (simp [*]; done)), H', ⟨by have := HK1.out; omega⟩, ⟨by (with_reducible repeat first | apply ra | apply rn | apply rd); exact HOz3.out⟩, ⟨by repeat (first | (with_reducible first | exact HK.out | apply Kept.alloc | apply Kept.drewN | apply Kept.drew) | exact HK.out)⟩, ⟨by repeat first | (with_reducible first | exact HB.out | apply ba | apply bn | apply bd | refine bs (by assumption) ?_) | exact HB.out⟩⟩
end Go.Proofs.Ytcfinlmocgbnbaa.Pr
end
section
namespace Go.Proofs.Ytcfinlmocgbnbaa.Pr
open Go.Proofs.Ytcfinlmocgbnbaa.Sq Go.RowKit Go.Proofs.YtcfinlmocgbnbaaW.PrintWords Go.Proofs.YtcfinlmocgbnbaaW.PrintLast Go.Proofs.YtcfinlmocgbnbaaW.PrintMore
attribute [local go_sem] max2_int min2_int max_two min_two max_three min_three max_four min_four
set_option linter.unusedVariables false
set_option linter.unusedSimpArgs false
def vault_book_head.l0 : Nat → List Int → List Int → Int → Int → Option (ByteArray)
 | 0, _, _, _, _ => none
 | k + 1, x3, x21, x22, x23 => if x23 < x22 then (if 0 ≤ x23 then (if x23 < (x21.length : Int) then (if x3.length < 140737488355328 then (vault_book_head.l0 k (x3 ++ [Go.bits .xor .u8 (rd x21 x23) 255]) x21 x22 (wrap64 (x23 + 1))) else (none)) else (none)) else (none)) else (if 0 ≤ (wrap64 (64 - (x3.length : Int))) then (if x3.length + (wrap64 (64 - (x3.length : Int)) : Int).toNat < 140737488355328 then (some (strOfNums (x3 ++ List.replicate (wrap64 (64 - (x3.length : Int)) : Int).toNat 0))) else (none)) else (none))
def vault_book_head.f (k : Nat) (l0_0 : List ByteArray) (l0_1 : List (S24)) (a0_2 : Int) (a0_3 : Int) (a0_4 : Int) : Option (ByteArray) := (vault_put_int.f k ([] : List Int) a0_2 8).bind fun tz2 => ((vault_put_int.f k tz2 a0_3 4).bind fun tz5 => ((vault_put_int.f k tz5 a0_4 4).bind fun tz8 => (if 16 ≤ (tz8.length : Int) then ((some (tz8.take 16 : List Int)).bind fun yz11 => (vault_book_head.l0 k tz8 yz11 (yz11.length : Int) 0)) else (none))))
theorem vault_book_head.mono_l : ∀ k, (∀ y0 y1 y2 y3, LeO (vault_book_head.l0 k y0 y1 y2 y3) (vault_book_head.l0 (k + 1) y0 y1 y2 y3))
 | 0 => fun _ _ _ _ r h => by simp [vault_book_head.l0] at h
 | k + 1 => by
  have ih0 := vault_book_head.mono_l k
  ·intro y0 y1 y2 y3
   unfold vault_book_head.l0
   repeat' first
   | (with_reducible exact ih0 _ _ _ _)
   | (with_reducible exact vault_put_int.mono _ _ _ _)
   | (with_reducible exact LeO.refl _)
   | (with_reducible exact LeO.none _)
   | (with_reducible refine LeO.ite ?_ ?_)
   | (with_reducible refine LeO.bind ?_ (fun _ => ?_))
   | exact ih0 _ _ _ _
   | exact vault_put_int.mono _ _ _ _
   | exact LeO.none _
   | refine LeO.ite ?_ ?_
   | refine LeO.bind ?_ (fun _ => ?_)
theorem vault_book_head.mono : ∀ a0 a1 a2 a3 a4 k, LeO (vault_book_head.f k a0 a1 a2 a3 a4) (vault_book_head.f (k + 1) a0 a1 a2 a3 a4) := by
 intro a0 a1 a2 a3 a4 k
 have ih0 := vault_book_head.mono_l k
 unfold vault_book_head.f
 repeat' first
  | (with_reducible exact ih0 _ _ _ _)
  | (with_reducible exact vault_put_int.mono _ _ _ _)
  | (with_reducible exact LeO.refl _)
  | (with_reducible exact LeO.none _)
  | (with_reducible refine LeO.ite ?_ ?_)
  | (with_reducible refine LeO.bind ?_ (fun _ => ?_))
  | exact ih0 _ _ _ _
  | exact vault_put_int.mono _ _ _ _
  | exact LeO.none _
  | refine LeO.ite ?_ ?_
  | refine LeO.bind ?_ (fun _ => ?_)
set_option maxHeartbeats 8000000 in
set_option maxRecDepth 100000 in
theorem vault_book_head.calls (k : Nat) (A0_0 : Option Addr) (c0_0 : Nat) (l0_0 : List ByteArray) (A0_1 : Option Addr) (c0_1 : Nat) (l0_1 : List (S24)) (a0_2 : Int) (a0_3 : Int) (a0_4 : Int) (r : ByteArray) (w : World) (hr0_0 : Kd.C Kd.string w A0_0 l0_0.length l0_0) (hc0_0 : l0_0.length ≤ c0_0) (hr0_1 : Kd.C k24 w A0_1 l0_1.length l0_1) (hc0_1 : l0_1.length ≤ c0_1) (h : vault_book_head.f k l0_0 l0_1 a0_2 a0_3 a0_4 = some r) :
  Calls Try.prog 56 #[.agg #[.slice A0_0 l0_0.length c0_0, .slice A0_1 l0_1.length c0_1, .int .i64 a0_2, .int .i64 a0_3, .int .i64 a0_4]] w fun e w' => e = .returned (.string r) ∧ Below w.heap.size w w' := by
 have hu89 := Try.underlying89
 have HR0_0 := am hr0_0
 have HC0_0 := am hc0_0
 clear hr0_0 hc0_0
 have HR0_1 := am hr0_1
 have HC0_1 := am hc0_1
 clear hr0_1 hc0_1
 have HB := am (Below.refl w.heap.size w)
 have H : ((vault_put_int.f k ([] : List Int) a0_2 8).bind fun tz2 => ((vault_put_int.f k tz2 a0_3 4).bind fun tz5 => ((vault_put_int.f k tz5 a0_4 4).bind fun tz8 => (if 16 ≤ (tz8.length : Int) then ((some (tz8.take 16 : List Int)).bind fun yz11 => (vault_book_head.l0 k tz8 yz11 (yz11.length : Int) 0)) else (none))))) = some r := h
 clear h
 replace H := ob_ H
 obtain ⟨tz2, A20, H⟩ := H
 replace H : ((vault_put_int.f k tz2 a0_3 4).bind fun tz5 => ((vault_put_int.f k tz5 a0_4 4).bind fun tz8 => (if 16 ≤ (tz8.length : Int) then ((some (tz8.take 16 : List Int)).bind fun yz11 => (vault_book_head.l0 k tz8 yz11 (yz11.length : Int) 0)) else (none)))) = some r := H
 have A2 := Aside0.mk A20
 clear A20
 replace H := ob_ H
 obtain ⟨tz5, A30, H⟩ := H
 replace H : ((vault_put_int.f k tz5 a0_4 4).bind fun tz8 => (if 16 ≤ (tz8.length : Int) then ((some (tz8.take 16 : List Int)).bind fun yz11 => (vault_book_head.l0 k tz8 yz11 (yz11.length : Int) 0)) else (none))) = some r := H
 have A3 := Aside0.mk A30
 clear A30
 replace H := ob_ H
 obtain ⟨tz8, A40, H⟩ := H
 replace H : (if 16 ≤ (tz8.length : Int) then ((some (tz8.take 16 : List Int)).bind fun yz11 => (vault_book_head.l0 k tz8 yz11 (yz11.length : Int) 0)) else (none)) = some r := H
 have A4 := Aside0.mk A40
 clear A40
 by_cases c5 : 16 ≤ (tz8.length : Int)
 rotate_left
 ·rw [if_neg c5] at H
  exact absurd H (by simp)
 rw [if_pos c5] at H
 have c5b0 := eq_true c5
 have c5b1 : decide (16 ≤ (tz8.length : Int)) = true := decide_eq_true c5
 clear c5
 obtain ⟨yz11, hyz11⟩ : ∃ y_ : List Int, y_ = (tz8.take 16) := ⟨_, rfl⟩
 replace H : (vault_book_head.l0 k tz8 yz11 (yz11.length : Int) 0) = some r := by first | (rw [hyz11]; with_reducible exact H) | (have H2_ := (Option.bind_some _ _).symm.trans H; rw [hyz11]; with_reducible exact H2_) | (have H2_ := (Option.bind_some _ _).symm.trans H; with_reducible exact H2_) | with_reducible exact H | (rw [hyz11]; exact H) | exact H
 have Nyz11 := am hyz11
 clear hyz11
 have H' := am H
 clear H
 go_enter Try.func56, Try.ntmps56
 go_wp2_with (first | ((with_reducible refine gate_dst (N := 1) rfl ?_); refine box_event ?hg (N := 1) ?hd (cs := #[.slice A0_0 l0_0.length c0_0, .slice A0_1 l0_1.length c0_1, .int .i64 a0_2, .int .i64 a0_3, .int .i64 a0_4]) (t := 89) ?hr ?_; (case hd => rfl); (case hg => rfl); (case hr => first | (go_simp; done) | (go_simp; rfl)); intro gbz1 hg w6 hbox hb; have n0_ := am (below_step (pb HB) hb); have n1_ := am (hbox); have n2_ := ge_ hg (pb HB); have n3_ := ge_ hg (pb HB); clear HB; have HB := n0_; have BKz1 := n1_; have GWz1 := n2_; have GEz1 := n3_; clear n0_ n1_ n2_ n3_; clear hb hbox hg; obtain ⟨hcz7_0, hcz7_1, hcz7_2, hcz7_3, hcz7_4⟩ := bc5 BKz1; obtain ⟨hfz7_0, hfz7_1, hfz7_2, hfz7_3, hfz7_4⟩ := bf5 BKz1) | ((with_reducible refine gate_callee (f := 78) rfl ?_); refine goesL_ (some 9) rfl rfl Try.func78 (by kernel_rfl) rfl #[.slice none 0 0, .int .i64 a0_2, .int .i64 8] rfl (by (try simp only [List.map_toArray, List.map_cons, List.map_nil]) <;> rfl) ?_; (refine (vault_put_int.calls k (fun k_ => some k_ = (.slice none 0 0 : Value).ownBlock) (.slice none 0 0) ([] : List Int) a0_2 8 tz2 w _ ?side1 ?side2 A2.out).mono ?_); (case side1 => repeat (first | (with_reducible first | exact HB.out | apply below_alloc | apply pw_below_drewN | apply below_drew1 | refine below_set ?_ GEz1.out) | exact HB.out)); (case side2 => exact Kd.R_nil _ _ _ _ _); rintro e w8 ⟨vz3, rfl, ho0, hb, hkp⟩; refine ⟨_, rfl, ?_⟩; have n0_ := am (blk_kept (pk BKz1) hkp (fun hs_ => (fun e_ => by simp [Value.ownBlock] at e_) hs_)); have n1_ := am (Kd.R_mono (ok' := fun k_ => True) ho0 (fun k_ hk_ => trivial)); have n2_ := am (hb); clear BKz1; clear HB; have BKz1 := n0_; have HOz4 := n1_; have HB := n2_; clear n0_ n1_ n2_; (try clear hkp); obtain ⟨hcz9_0, hcz9_1, hcz9_2, hcz9_3, hcz9_4⟩ := bc5 BKz1; obtain ⟨hfz9_0, hfz9_1, hfz9_2, hfz9_3, hfz9_4⟩ := bf5 BKz1; obtain ⟨Ao10, co10, eo10⟩ := Kd.R_slice HOz4.out; subst eo10) | ((with_reducible refine gate_callee (f := 78) rfl ?_); refine goesL_ (some 14) rfl rfl Try.func78 (by kernel_rfl) rfl #[.slice Ao10 tz2.length co10, .int .i64 a0_3, .int .i64 4] rfl (by (try simp only [List.map_toArray, List.map_cons, List.map_nil]) <;> rfl) ?_; (with_reducible refine (vault_put_int.calls k (fun k_ => some k_ = (.slice Ao10 tz2.length co10 : Value).ownBlock) (.slice Ao10 tz2.length co10) tz2 a0_3 4 tz5 w _ ?side1 ?side2 A3.out).mono ?_); (case side1 => repeat (first | (with_reducible first | exact HB.out | apply below_alloc | apply pw_below_drewN | apply below_drew1 | refine below_set ?_ GEz1.out) | exact HB.out)); (case side2 => exact Kd.R_tight rfl HOz4.out); rintro e w11 ⟨vz6, rfl, ho0, hb, hkp⟩; refine ⟨_, rfl, ?_⟩; have n0_ := am (blk_kept (pk BKz1) hkp (fun hs_ => (fun e_ => (Kd.R_ne HOz4.out BKz1.out (by decide)) e_) hs_)); have n1_ := am (Kd.R_mono (ok' := fun k_ => True) ho0 (fun k_ hk_ => trivial)); have n2_ := am (hb); clear BKz1; clear HB; clear HOz4; have BKz1 := n0_; have HOz7 := n1_; have HB := n2_; clear n0_ n1_ n2_; (try clear hkp); obtain ⟨hcz12_0, hcz12_1, hcz12_2, hcz12_3, hcz12_4⟩ := bc5 BKz1; obtain ⟨hfz12_0, hfz12_1, hfz12_2, hfz12_3, hfz12_4⟩ := bf5 BKz1; obtain ⟨Ao13, co13, eo13⟩ := Kd.R_slice HOz7.out; subst eo13) | ((with_reducible refine gate_callee (f := 78) rfl ?_); refine goesL_ (some 19) rfl rfl Try.func78 (by kernel_rfl) rfl #[.slice Ao13 tz5.length co13, .int .i64 a0_4, .int .i64 4] rfl (by (try simp only [List.map_toArray, List.map_cons, List.map_nil]) <;> rfl) ?_; (with_reducible refine (vault_put_int.calls k (fun k_ => some k_ = (.slice Ao13 tz5.length co13 : Value).ownBlock) (.slice Ao13 tz5.length co13) tz5 a0_4 4 tz8 w _ ?side1 ?side2 A4.out).mono ?_); (case side1 => repeat (first | (with_reducible first | exact HB.out | apply below_alloc | apply pw_below_drewN | apply below_drew1 | refine below_set ?_ GEz1.out) | exact HB.out)); (case side2 => exact Kd.R_tight rfl HOz7.out); rintro e w14 ⟨vz9, rfl, ho0, hb, hkp⟩; refine ⟨_, rfl, ?_⟩; have n0_ := am (blk_kept (pk BKz1) hkp (fun hs_ => (fun e_ => (Kd.R_ne HOz7.out BKz1.out (by decide)) e_) hs_)); have n1_ := am (Kd.R_mono (ok' := fun k_ => True) ho0 (fun k_ hk_ => trivial)); have n2_ := am (hb); clear BKz1; clear HB; clear HOz7; have BKz1 := n0_; have HOz10 := n1_; have HB := n2_; clear n0_ n1_ n2_; (try clear hkp); obtain ⟨Ao16, co16, eo16⟩ := Kd.R_slice HOz10.out; subst eo16; have q15 : (16 : Int) ≤ ((tz8.length : Int) : Int) := of_decide_eq_true (by first | (with_reducible assumption) | assumption); obtain ⟨i015, hi015, _, hsz15, _⟩ := info_parts info5; have hroom15 : tz8.length ≤ co16 := (Kd.R_reads' HOz10.out).2.1; have hC15 : Kd.C (Kd.int .u8) _ Ao16 tz8.length tz8 := (Kd.R_reads' HOz10.out).2.2; have hcut15 := cut_to (P := Try.prog) 49 5 .i64 Try.underlying49 hi015 Ao16 tz8.length co16 16 (by omega) q15 hroom15; have hr15 := Kd.C_take (m := 16) hC15 (by omega); have hy15 : yz11.length = (16 : Int).toNat := (by rw [Nyz11.out, List.length_take]; omega); rw [← Nyz11.out] at hr15; rw [← hy15] at hcut15; have HRz14 := am hr15; have HCz14 := am (show yz11.length ≤ co16 from by omega); clear hr15 hC15 hroom15 hi015 hsz15; have KY15 := am hy15; clear hy15; have KL15 := am (show 16 ≤ tz8.length from by omega); replace q15 := eq_true q15))
 obtain ⟨g16_, cap16_, hf16_, _, _, _⟩ := Kd.R_form HOz10.out (by have := KL15.out; omega)
 injection hf16_ with e16a_ e16b_ e16c_
 subst e16a_
 subst e16c_
 go_loopg [3, 23] k (fun kq v3 v23 w' => ∃ (x3_1 : List Int) (x23_1 : Int), v23 = .int .i64 x23_1 ∧ Aside0 (vault_book_head.l0 kq x3_1 yz11 (yz11.length : Int) x23_1 = some r) ∧ Aside0 (kq ≤ k) ∧ Aside0 (Kd.R (Kd.int .u8) 5 w' w.heap.size (fun _ => True) v3 x3_1) ∧ Aside0 (w'.heap[gbz1]? = some (.cells #[(.slice A0_0 l0_0.length c0_0), (.slice A0_1 l0_1.length c0_1), .int .i64 a0_2, .int .i64 a0_3, .int .i64 a0_4] 89 (0, 0))) ∧ Aside0 (Below w.heap.size w w') ∧ Aside0 (Kd.C (Kd.int .u8) w' (some ⟨g16_, 0, none⟩) yz11.length yz11) ∧ Aside0 (yz11.length ≤ x3_1.length))
 case atStart => exact ⟨(tz8), (0), (by first | rfl | (simp; done) | (simp [*]; done)), H', ⟨Nat.le_refl _⟩, ⟨by (with_reducible repeat first | apply ra | apply rn | apply rd); exact HOz10.out⟩, ⟨by (with_reducible repeat (first | refine blk_drewN ?_ _ | refine bkD ?_ | refine bkA ?_ _)); exact BKz1.out⟩, ⟨by repeat first | (with_reducible first | exact HB.out | apply ba | apply bn | apply bd | refine bs (by assumption) ?_) | exact HB.out⟩, HRz14, ⟨by rw [Nyz11.out, List.length_take]; omega⟩⟩
 clear H'
 try clear q1
 try clear p2
 try clear c5
 try clear c5b0
 try clear c5b1
 try clear c7
 try clear q15
 try clear hcz12_0
 try clear hcz12_1
 try clear hcz12_2
 try clear hcz12_3
 try clear hcz12_4
 try clear hcz7_0
 try clear hcz7_1
 try clear hcz7_2
 try clear hcz7_3
 try clear hcz7_4
 try clear hcz9_0
 try clear hcz9_1
 try clear hcz9_2
 try clear hcz9_3
 try clear hcz9_4
 try clear hfz12_0
 try clear hfz12_1
 try clear hfz12_2
 try clear hfz12_3
 try clear hfz12_4
 try clear hfz7_0
 try clear hfz7_1
 try clear hfz7_2
 try clear hfz7_3
 try clear hfz7_4
 try clear hfz9_0
 try clear hfz9_1
 try clear hfz9_2
 try clear hfz9_3
 try clear hfz9_4
 try clear q15
 obtain ⟨x3_1, x23_1, rfl, HA, HK1, HO_3, BKz1, HB, HYC, HYL⟩ := hrel
 cases gk with
 | zero => exact absurd HA.out (by simp [vault_book_head.l0])
 | succ k1 => ?_
 have H := HA.out
 clear HA
 simp only [vault_book_head.l0] at H
 by_cases c17 : x23_1 < (yz11.length : Int)
 rotate_left
 ·rw [if_neg c17] at H
  have c17b0 : decide (x23_1 < (yz11.length : Int)) = false := decide_eq_false c17
  clear c17
  obtain ⟨ji22, hji22⟩ : ∃ j_ : Int, (wrap64 (64 - (x3_1.length : Int))) = j_ := ⟨_, rfl⟩
  replace H : (if 0 ≤ (ji22) then (if x3_1.length + (ji22 : Int).toNat < 140737488355328 then (some (strOfNums (x3_1 ++ List.replicate (ji22 : Int).toNat 0))) else (none)) else (none)) = some r := by first | (rw [hji22] at H; exact H) | (simp only [hji22] at H ⊢; exact H)
  have hji22w : (IntKind.i64.wrap (64 - (x3_1.length : Int))) = ji22 := (i64_w _).trans hji22
  by_cases c23 : 0 ≤ (ji22)
  rotate_left
  ·rw [if_neg c23] at H
   exact absurd H (by simp)
  rw [if_pos c23] at H
  have c23b0 := eq_true c23
  have c23b1 : decide (0 ≤ (ji22)) = true := decide_eq_true c23
  clear c23
  by_cases c24 : x3_1.length + (ji22 : Int).toNat < 140737488355328
  rotate_left
  ·rw [if_neg c24] at H
   exact absurd H (by simp)
  rw [if_pos c24] at H
  have LMc24 := Aside0.mk c24
  clear c24
  obtain ⟨yz19, hyz19⟩ : ∃ y_ : List Int, y_ = (x3_1 ++ List.replicate (ji22 : Int).toNat 0) := ⟨_, rfl⟩
  replace H : (some (strOfNums yz19)) = some r := by first | (rw [hyz19]; with_reducible exact H) | (have H2_ := (Option.bind_some _ _).symm.trans H; rw [hyz19]; with_reducible exact H2_) | (have H2_ := (Option.bind_some _ _).symm.trans H; with_reducible exact H2_) | with_reducible exact H | (rw [hyz19]; exact H) | exact H
  have Nyz19 := am hyz19
  clear hyz19
  obtain rfl := Option.some.inj H
  obtain ⟨Ao25, co25, eo25⟩ := Kd.R_slice HO_3.out
  subst eo25
  go_wp2_with (first | (at_builtin; refine Kd.R_append_zeros (Kd.int .u8) (w0 := w) w.heap.size rfl (.tmp 33) (.tmp 36) 49 3 5 (.int .u8 0) 1 rfl Try.underlying49 Try.underlying3 info5 rfl (by decide) (by omega) (.slice Ao25 x3_1.length co25) x3_1 0 (ji22 : Int) (fun _ => True) rfl rfl rfl ?aF ?aO (of_decide_eq_true (by first | (with_reducible assumption) | assumption)) ?aB ?aS ?aL ?_; (case aB => exact (by repeat first | (with_reducible first | exact HB.out | apply ba | apply bn | apply bd | refine bs (by assumption) ?_) | exact HB.out)); (case aF => exact (fun _ _ => trivial)); (case aO => exact (pr HO_3)); (case aS => exact (below_size (by repeat first | (with_reducible first | exact HB.out | apply ba | apply bn | apply bd | refine bs (by assumption) ?_) | exact HB.out))); (case aL => have := LMc24.out; omega); intro vz20 w26 ho hb hg hat; rw [← Nyz19.out] at ho; have n0_ := am (blk_grown (pk BKz1) hg (Kd.R_ne HO_3.out BKz1.out (by decide))); have n1_ := am (hb); have n2_ := am (ho); clear BKz1; clear HB; clear HO_3; have BKz1 := n0_; have HB := n1_; have HOz21 := n2_; clear n0_ n1_ n2_; clear ho hb hg hat; have hcv27 := own_string (P := Try.prog) Try.underlying49 Try.underlying5 Try.underlying9 (Kd.own_of_R HOz21.out)))
  go_ret
  exact ⟨by first | rfl | (simp [errW_none, errW_some] <;> rfl) | (simp only [← hji22]; first | rfl | (simp [errW_none, errW_some] <;> rfl)) | (simp [*, errW_none, errW_some] <;> rfl), by repeat first | (with_reducible first | exact HB.out | apply ba | apply bn | apply bd | refine bs (by assumption) ?_) | exact HB.out⟩
 rw [if_pos c17] at H
 have c17b0 : decide (x23_1 < (yz11.length : Int)) = true := decide_eq_true c17
 clear c17
 by_cases c18 : 0 ≤ x23_1
 rotate_left
 ·rw [if_neg c18] at H
  exact absurd H (by simp)
 rw [if_pos c18] at H
 have c18b0 : decide (0 ≤ x23_1) = true := decide_eq_true c18
 clear c18
 by_cases c19 : x23_1 < (yz11.length : Int)
 rotate_left
 ·rw [if_neg c19] at H
  exact absurd H (by simp)
 rw [if_pos c19] at H
 have c19b0 : decide (x23_1 < (yz11.length : Int)) = true := decide_eq_true c19
 clear c19
 by_cases c20 : x3_1.length < 140737488355328
 rotate_left
 ·rw [if_neg c20] at H
  exact absurd H (by simp)
 rw [if_pos c20] at H
 have LMc20 := Aside0.mk c20
 clear c20
 obtain ⟨yz16, hyz16⟩ : ∃ y_ : List Int, y_ = (x3_1 ++ [Go.bits .xor .u8 (rd yz11 x23_1) 255]) := ⟨_, rfl⟩
 replace H : (vault_book_head.l0 k1 yz16 yz11 (yz11.length : Int) (wrap64 (x23_1 + 1))) = some r := by first | (rw [hyz16]; with_reducible exact H) | (have H2_ := (Option.bind_some _ _).symm.trans H; rw [hyz16]; with_reducible exact H2_) | (have H2_ := (Option.bind_some _ _).symm.trans H; with_reducible exact H2_) | with_reducible exact H | (rw [hyz16]; exact H) | exact H
 have Nyz16 := am hyz16
 clear hyz16
 have H' := am H
 clear H
 have pz15 : 0 ≤ (x23_1 : Int) := of_decide_eq_true (by first | (with_reducible assumption) | assumption)
 have qz15 : x23_1 < (yz11.length : Int) := of_decide_eq_true (by first | (with_reducible assumption) | assumption)
 obtain ⟨adz15, ez15, hxz15_0⟩ := Kd.at_int HYC.out x23_1 pz15 qz15
 cases ez15
 simp only [Addr.add_lit, Nat.zero_add] at hxz15_0
 replace pz15 := eq_true pz15
 replace qz15 := eq_true qz15
 go_wp2_with (first | ((with_reducible refine gate_builtin (b := .append) (xs := #[.tmp 27, .tmp 30]) rfl ?_); at_builtin; refine Go.Proofs.Ytcfinlmocgbnbaa.Sq.Kd.R_append_keep (Kd.int .u8) (w0 := w) w.heap.size rfl (.tmp 27) (.tmp 30) 49 5 (.int .u8 0) 1 rfl Try.underlying49 info5 rfl (by decide) (by omega) u3 x3_1 (Go.bits .xor .u8 (rd yz11 x23_1) 255) [.int .u8 (Go.bits .xor .u8 (rd yz11 x23_1) 255)] (fun _ => True) (fun _ => False) rfl rfl ?aP (fun _ hk => hk.elim) ?aF ?aO ?aB ?aS ?aL ?_; (case aP => exact rfl); (case aB => exact (by repeat first | (with_reducible first | exact HB.out | apply ba | apply bn | apply bd | refine bs (by assumption) ?_) | exact HB.out)); (case aF => exact (fun _ _ => trivial)); (case aO => exact (pr HO_3)); (case aS => exact (below_size (by repeat first | (with_reducible first | exact HB.out | apply ba | apply bn | apply bd | refine bs (by assumption) ?_) | exact HB.out))); (case aL => have := LMc20.out; omega); intro vz17 w21 ho hb hg hat hkp; have n3_ := am (Go.Proofs.Ytcfinlmocgbnbaa.Sq.Kd.C_append_keep HO_3.out hg hkp HYC.out HYL.out); clear HYC hkp; have HYC := n3_; clear n3_; rw [← Nyz16.out] at ho; have n0_ := am (blk_grown (pk BKz1) hg (Kd.R_ne HO_3.out BKz1.out (by decide))); have n1_ := am (hb); have n2_ := am (ho); clear BKz1; clear HB; clear HO_3; have BKz1 := n0_; have HB := n1_; have HOz18 := n2_; clear n0_ n1_ n2_; clear ho hb hg hat))
 go_roundg k1
 case measure => have := HK1.out; omega
 case rel => exact ⟨(yz16), (wrap64 (x23_1 + 1)), (by first | rfl | (simp; done) | (simp [*]; done)), H', ⟨by have := HK1.out; omega⟩, ⟨by (with_reducible repeat first | apply ra | apply rn | apply rd); exact HOz18.out⟩, ⟨by (with_reducible repeat (first | refine blk_drewN ?_ _ | refine bkD ?_ | refine bkA ?_ _)); exact BKz1.out⟩, ⟨by repeat first | (with_reducible first | exact HB.out | apply ba | apply bn | apply bd | refine bs (by assumption) ?_) | exact HB.out⟩, HYC, ⟨by rw [Nyz16.out, List.length_append]; have := HYL.out; omega⟩⟩
end Go.Proofs.Ytcfinlmocgbnbaa.Pr
end
section
namespace Go.Proofs.Ytcfinlmocgbnbaa.Pr
open Go.RowKit Go.Shelf Go.Proofs.Ytcfinlmocgbnbaa.XB Go.Proofs.YtcfinlmocgbnbaaW.PrintWords
attribute [local go_sem] Oper.semAt_some
set_option linter.unusedVariables false
set_option linter.unusedSimpArgs false
def oddB (n : Int) (m : S24) : Bool := if m.f0 then (decide (m.f1 ≠ 0) || decide (m.f2 ≠ ⟨#[]⟩)) else (decide (m.f1 < 0) || decide (m.f1 ≥ n) || decide ((m.f2.size : Int) ≠ 64))
def shortB (s : ByteArray) : Bool := decide ((s.size : Int) ≠ 64)
def syncB (m : S24) : Bool := m.f0
def rightB (su : List ByteArray) (so : List S24) : Bool := decide ((su.length : Int) ≥ 1) && (decide ((su.length : Int) ≤ 400) && (decide ((so.length : Int) ≤ 3000) && (!(su.any shortB) && (!(so.any syncB) && !(so.any (oddB su.length))))))
def lastB (su : List ByteArray) (so : List S24) (b : Int) : ByteArray := match so.reverse.find? (fun m => decide (m.f1 = b)) with
  | some m => m.f2
  | none => rdOf ByteArray.empty su b
def readB (su : List ByteArray) (so : List S24) (b : Int) : ByteArray × Int := if rightB su so = true ∧ 0 ≤ b ∧ b < su.length then (lastB su so b, 0) else (⟨#[]⟩, 1)
def put1 (su : List ByteArray) (m : S24) (n : Int) : List ByteArray := su.set m.f1.toNat (m.f2.extract 0 n.toNat ++ (rdOf ByteArray.empty su m.f1).extract n.toNat (rdOf ByteArray.empty su m.f1).size)
def fall : List ByteArray → List S24 → (Nat → Int) → Nat → List ByteArray
  | su, [], _, _ => su
  | su, m :: so, cut, i => fall (put1 su m (cut i)) so cut (i + 1)
def cutOf (cuts : List Int) (i : Nat) : Int := if (i : Int) ≥ cuts.length then 0 else min (max (rd cuts i) 0) 64
def doL (su0 : List ByteArray) (so0 : List S24) : List ByteArray → List S24 → List S24 → List ByteArray × List S24 × Int
  | su, so, [] => (su, so, 0)
  | su, so, m :: l => if m.f0 = true then doL su0 so0 (fall su so (fun _ => 64) 0) [] l else if (so.length : Int) = 3000 then (su0, so0, 2) else doL su0 so0 su (so ++ [m]) l
def doB (su : List ByteArray) (so : List S24) (l : List S24) : List ByteArray × List S24 × Int := if rightB su so = true ∧ l.any (oddB su.length) = false then doL su so su so l else (su, so, 1)
def crashB (su : List ByteArray) (so : List S24) (cuts : List Int) : List ByteArray × List S24 × Int := if rightB su so = true then (fall su so (cutOf cuts) 0, [], 0) else (su, so, 1)
theorem str_eq (a b : ByteArray) : (a.toList == b.toList) = decide (a = b) := by
  have h : a.toList = b.toList ↔ a = b := by
    rw [ByteArray.toList_eq, ByteArray.toList_eq]
    constructor
    · intro h
      obtain ⟨⟨x⟩⟩ := a
      obtain ⟨⟨y⟩⟩ := b
      simp at h
      rw [h]
    · rintro rfl; rfl
  by_cases h1 : a = b <;> simp [h, h1]
set_option maxRecDepth 100000 in
theorem short_calls (x : ByteArray) (w : World) : Calls Try.prog 45 #[.string x] w fun e w' => e = .returned (.bool (shortB x)) ∧ Below w.heap.size w w' := by
  go_enter Try.func45, Try.ntmps45
  go_wp2
  go_ret
  refine ⟨?_, Below.refl _ _⟩
  by_cases h2 : (x.size : Int) = 64 <;> simp [shortB, h2] <;> omega
set_option maxRecDepth 100000 in
theorem sync_calls (x : S24) (w : World) : Calls Try.prog 44 #[.agg #[.bool x.f0, .int .i64 x.f1, .string x.f2]] w fun e w' => e = .returned (.bool (syncB x)) ∧ Below w.heap.size w w' := by
  go_enter Try.func44, Try.ntmps44
  go_wp2
  go_ret
  exact ⟨rfl, below_alloc (Below.refl _ _) _⟩
set_option maxRecDepth 100000 in
theorem odd_calls (x : S24) (n : Int) (b : Nat) (w0 w : World) (hb : w0.heap[b]? = some (.cells #[.int .i64 n] 3 (0, 0))) (hw : Below w0.heap.size w0 w) :
    Calls Try.prog 73 (#[.agg #[.bool x.f0, .int .i64 x.f1, .string x.f2]] ++ #[.pointer (some ⟨b, 0, none⟩)]) w fun e w' => e = .returned (.bool (oddB n x)) ∧ Below w.heap.size w w' := by
  have hb' := blk_same hb hw
  have c2 := fun (o : Obj) => (blk_cell (bkA hb' o) 0).trans rfl
  obtain ⟨sy, bl, by_⟩ := x
  have hs := str_eq by_ ⟨#[]⟩
  go_enter Try.func73, Try.ntmps73
  cases sy
  · by_cases h0 : bl < 0
    · go_wp2
      go_ret
      exact ⟨by simp [oddB, h0], below_alloc (Below.refl _ _) _⟩
    · by_cases h1 : n ≤ bl
      · go_wp2
        go_ret
        exact ⟨by simp [oddB, h0, h1], below_alloc (Below.refl _ _) _⟩
      · go_wp2
        go_ret
        refine ⟨?_, below_alloc (Below.refl _ _) _⟩
        by_cases h2 : (by_.size : Int) = 64 <;> simp [oddB, h0, h1, h2]
  · by_cases h0 : bl = 0
    · by_cases h1 : by_ = ⟨#[]⟩
      · subst h0 h1
        clear hs
        go_wp2
        go_ret
        exact ⟨by simp [oddB], below_alloc (Below.refl _ _) _⟩
      · have e0 : (bl == 0) = true := by simpa using h0
        have e1 : (bl != 0) = false := by simpa using h0
        have hne : by_.toList ≠ [] := fun e => h1 (by have := hs; simp [e] at this; simpa using this)
        have e2 : by_.toList.isEmpty = false := by simpa using hne
        clear h0 hs
        go_wp2
        go_ret
        exact ⟨by simp [oddB, h1], below_alloc (Below.refl _ _) _⟩
    · have e0 : (bl == 0) = false := by simpa using h0
      have e1 : (bl != 0) = true := by simpa using h0
      go_wp2
      go_ret
      exact ⟨by simp [oddB, h0], below_alloc (Below.refl _ _) _⟩
theorem oddF_calls (n : Int) (w : World) : Calls Try.prog 48 #[.int .i64 n] w fun e w' => e = .returned (.func (.func 73) #[] #[.pointer (some ⟨w.heap.size, 0, none⟩)]) ∧ w' = w.alloc (.cells #[.int .i64 n] 3) := by
  go_enter Try.func48, Try.ntmps48
  go_wp2
  go_ret
  exact ⟨rfl, rfl⟩
def idx {α : Type} (p : α → Bool) (xs : List α) : Int := match xs.findIdx? p with | some i => i | none => -1
theorem idx_none {α : Type} {p : α → Bool} {xs : List α} (h : ∀ j, (hj : j < xs.length) → p xs[j] = false) : idx p xs = -1 := by
  unfold idx
  rw [List.findIdx?_eq_none_iff.2]
  intro x hx
  obtain ⟨j, hj, rfl⟩ := List.getElem_of_mem hx
  exact h j hj
theorem idx_some {α : Type} {p : α → Bool} {xs : List α} {k : Nat} (hk : k < xs.length) (hp : p xs[k] = true) (h : ∀ j, (hj : j < k) → p (xs[j]'(by omega)) = false) : idx p xs = k := by
  unfold idx
  rw [List.findIdx?_eq_some_iff_getElem.2 ⟨hk, hp, fun j hj => by simp [h j hj]⟩]
theorem idx_cases {α : Type} (p : α → Bool) (xs : List α) : (idx p xs = -1 ∧ xs.find? p = none) ∨ ∃ k, ∃ hk : k < xs.length, idx p xs = k ∧ xs.find? p = some xs[k] := by
  unfold idx
  cases h : xs.findIdx? p with
  | none => exact .inl ⟨rfl, by rw [List.find?_eq_none]; rw [List.findIdx?_eq_none_iff] at h; intro x hx; simp [h x hx]⟩
  | some i =>
    obtain ⟨hi, hp, hj⟩ := List.findIdx?_eq_some_iff_getElem.1 h
    exact .inr ⟨i, hi, rfl, by rw [List.find?_eq_some_iff_getElem]; exact ⟨hp, i, hi, rfl, fun j hj' => by simpa using hj j hj'⟩⟩
theorem idx_any {α : Type} (p : α → Bool) (xs : List α) : decide (idx p xs ≥ 0) = xs.any p := by
  rcases idx_cases p xs with ⟨h1, h2⟩ | ⟨k, hk, h1, h2⟩
  · rw [h1]
    rw [List.find?_eq_none] at h2
    have : xs.any p = false := by rw [List.any_eq_false]; exact h2
    rw [this]
    rfl
  · rw [h1]
    have h3 := List.find?_some h2
    have : xs.any p = true := List.any_eq_true.2 ⟨_, List.getElem_mem hk, h3⟩
    rw [this]
    simp
theorem rd24_get {xs : List S24} {k : Nat} (h : k < xs.length) : rd_T24 xs k = xs[k] := by
  unfold rd_T24
  simp [h]
theorem rdS_get {xs : List ByteArray} {k : Nat} (h : k < xs.length) : rdOf ByteArray.empty xs k = xs[k] := by
  unfold rdOf
  simp [h]
set_option maxRecDepth 100000 in
set_option maxHeartbeats 4000000 in
theorem index72_calls (pf : Nat) (lb : Array Value) (p : S24 → Bool) (A : Option Addr) (c : Nat) (xs : List S24) (w : World) (hr : Kd.C k24 w A xs.length xs) (hc : xs.length ≤ c) (hxs : xs.length ≤ 9223372036854775807)
    (epf : ∀ args w, (callFunc pf args).run Try.prog w = .ok (.enter pf args) w)
    (hp : ∀ (x : S24) (W : World), Below w.heap.size w W → Calls Try.prog pf (#[.agg #[.bool x.f0, .int .i64 x.f1, .string x.f2]] ++ lb) W fun e W' => e = .returned (.bool (p x)) ∧ Below W.heap.size W W') :
    Calls Try.prog 72 #[.slice A xs.length c, .func (.func pf) #[] lb] w fun e w' => e = .returned (.int .i64 (idx p xs)) ∧ Below w.heap.size w w' := by
  refine (callsIn_wide (n := 9)).1 (callsIn_of_wp Try.func72 rfl trivial ?_ rfl)
  simp only [Try.ntmps72, List.size_toArray, List.length_cons, List.length_nil, Nat.reduceAdd, Nat.reduceSub, Array.replicate_succ, Array.replicate_zero, List.push_toArray, List.append_toArray, List.nil_append, List.cons_append]
  gi_wp2
  gi_loopw [8] (fun v wr => ∃ k : Nat, k ≤ xs.length ∧ v = .int .i64 k ∧ (∀ j, (hj : j < xs.length) → j < k → p xs[j] = false) ∧ Below w.heap.size w wr)
    (fun v _ => xs.length - (intOf v).toNat)
  case atStart => exact ⟨0, by omega, rfl, fun j _ h => absurd h (by omega), Below.refl _ _⟩
  case round =>
    obtain ⟨k, hk, rfl, hJs, hB⟩ := hrel
    by_cases hlt : k < xs.length
    · obtain ⟨ad, rfl, r0, r1, r2⟩ := at_T24 hr (k : Int) (by omega) (by omega)
      have q0 := (hB.cell (World.block_lt_of_cell? w _ r0)).trans r0
      have q1 := (hB.cell (World.block_lt_of_cell? w _ r1)).trans r1
      have q2 := (hB.cell (World.block_lt_of_cell? w _ r2)).trans r2
      simp only [Int.toNat_natCast] at q0 q1 q2
      clear r0 r1 r2
      gi_wp2_with fail
      refine ⟨trivial, (callsIn_wide.2 (hp (rd_T24 xs (k : Int)) _ hB)).mono ?_⟩
      rintro e W1 ⟨rfl, hb⟩
      have hw : wrap64 ((k : Int) + 1) = (k : Int) + 1 := by unfold wrap64; omega
      have hB1 : Below w.heap.size w W1 := below_step hB hb
      clear hb q0 q1 q2
      cases hpk : p (rd_T24 xs (k : Int))
      · gi_wp2
        go_roundw
        case rel =>
          refine ⟨k + 1, by omega, by simp, fun j hj h => ?_, hB1⟩
          by_cases hjk : j < k
          · exact hJs j hj hjk
          · obtain rfl : j = k := by omega
            rw [← rd24_get hlt]
            exact hpk
        case measure => simp [intOf]; omega
      · have he : idx p xs = k := idx_some hlt (by rw [← rd24_get hlt]; exact hpk) (fun j hj => hJs j (by omega) hj)
        gi_wp2
        go_ret
        exact ⟨by rw [he]; rfl, hB1⟩
    · obtain rfl : k = xs.length := by omega
      have he : idx p xs = -1 := idx_none (fun j hj => hJs j hj hj)
      gi_wp2
      go_ret
      exact ⟨by rw [he]; rfl, hB⟩
theorem contains47_calls (pf : Nat) (lb : Array Value) (p : S24 → Bool) (A : Option Addr) (c : Nat) (xs : List S24) (w : World) (hr : Kd.C k24 w A xs.length xs) (hc : xs.length ≤ c) (hxs : xs.length ≤ 9223372036854775807)
    (epf : ∀ args w, (callFunc pf args).run Try.prog w = .ok (.enter pf args) w)
    (hp : ∀ (x : S24) (W : World), Below w.heap.size w W → Calls Try.prog pf (#[.agg #[.bool x.f0, .int .i64 x.f1, .string x.f2]] ++ lb) W fun e W' => e = .returned (.bool (p x)) ∧ Below W.heap.size W W') :
    Calls Try.prog 47 #[.slice A xs.length c, .func (.func pf) #[] lb] w fun e w' => e = .returned (.bool (xs.any p)) ∧ Below w.heap.size w w' := by
  go_enter Try.func47, Try.ntmps47
  go_wp2_with fail
  refine (index72_calls pf lb p A c xs w hr hc hxs epf hp).mono ?_
  rintro e W1 ⟨rfl, hb⟩
  go_wp2
  go_ret
  exact ⟨by rw [← idx_any]; rfl, hb⟩
set_option maxRecDepth 100000 in
set_option maxHeartbeats 4000000 in
theorem index71_calls (pf : Nat) (lb : Array Value) (p : ByteArray → Bool) (A : Option Addr) (c : Nat) (xs : List ByteArray) (w : World) (hr : Kd.C Kd.string w A xs.length xs) (hc : xs.length ≤ c) (hxs : xs.length ≤ 9223372036854775807)
    (epf : ∀ args w, (callFunc pf args).run Try.prog w = .ok (.enter pf args) w)
    (hp : ∀ (x : ByteArray) (W : World), Below w.heap.size w W → Calls Try.prog pf (#[.string x] ++ lb) W fun e W' => e = .returned (.bool (p x)) ∧ Below W.heap.size W W') :
    Calls Try.prog 71 #[.slice A xs.length c, .func (.func pf) #[] lb] w fun e w' => e = .returned (.int .i64 (idx p xs)) ∧ Below w.heap.size w w' := by
  refine (callsIn_wide (n := 9)).1 (callsIn_of_wp Try.func71 rfl trivial ?_ rfl)
  simp only [Try.ntmps71, List.size_toArray, List.length_cons, List.length_nil, Nat.reduceAdd, Nat.reduceSub, Array.replicate_succ, Array.replicate_zero, List.push_toArray, List.append_toArray, List.nil_append, List.cons_append]
  gi_wp2
  gi_loopw [8] (fun v wr => ∃ k : Nat, k ≤ xs.length ∧ v = .int .i64 k ∧ (∀ j, (hj : j < xs.length) → j < k → p xs[j] = false) ∧ Below w.heap.size w wr)
    (fun v _ => xs.length - (intOf v).toNat)
  case atStart => exact ⟨0, by omega, rfl, fun j _ h => absurd h (by omega), Below.refl _ _⟩
  case round =>
    obtain ⟨k, hk, rfl, hJs, hB⟩ := hrel
    by_cases hlt : k < xs.length
    · obtain ⟨ad, rfl, r0⟩ := Kd.at_string hr (k : Int) (by omega) (by omega)
      have q0 := (hB.cell (World.block_lt_of_cell? w _ r0)).trans r0
      simp only [Int.toNat_natCast] at q0
      clear r0
      gi_wp2_with fail
      refine ⟨trivial, (callsIn_wide.2 (hp (rdOf ByteArray.empty xs (k : Int)) _ hB)).mono ?_⟩
      rintro e W1 ⟨rfl, hb⟩
      have hw : wrap64 ((k : Int) + 1) = (k : Int) + 1 := by unfold wrap64; omega
      have hB1 : Below w.heap.size w W1 := below_step hB hb
      clear hb q0
      cases hpk : p (rdOf ByteArray.empty xs (k : Int))
      · gi_wp2
        go_roundw
        case rel =>
          refine ⟨k + 1, by omega, by simp, fun j hj h => ?_, hB1⟩
          by_cases hjk : j < k
          · exact hJs j hj hjk
          · obtain rfl : j = k := by omega
            rw [← rdS_get hlt]
            exact hpk
        case measure => simp [intOf]; omega
      · have he : idx p xs = k := idx_some hlt (by rw [← rdS_get hlt]; exact hpk) (fun j hj => hJs j (by omega) hj)
        gi_wp2
        go_ret
        exact ⟨by rw [he]; rfl, hB1⟩
    · obtain rfl : k = xs.length := by omega
      have he : idx p xs = -1 := idx_none (fun j hj => hJs j hj hj)
      gi_wp2
      go_ret
      exact ⟨by rw [he]; rfl, hB⟩
theorem contains46_calls (pf : Nat) (lb : Array Value) (p : ByteArray → Bool) (A : Option Addr) (c : Nat) (xs : List ByteArray) (w : World) (hr : Kd.C Kd.string w A xs.length xs) (hc : xs.length ≤ c) (hxs : xs.length ≤ 9223372036854775807)
    (epf : ∀ args w, (callFunc pf args).run Try.prog w = .ok (.enter pf args) w)
    (hp : ∀ (x : ByteArray) (W : World), Below w.heap.size w W → Calls Try.prog pf (#[.string x] ++ lb) W fun e W' => e = .returned (.bool (p x)) ∧ Below W.heap.size W W') :
    Calls Try.prog 46 #[.slice A xs.length c, .func (.func pf) #[] lb] w fun e w' => e = .returned (.bool (xs.any p)) ∧ Below w.heap.size w w' := by
  go_enter Try.func46, Try.ntmps46
  go_wp2_with fail
  refine (index71_calls pf lb p A c xs w hr hc hxs epf hp).mono ?_
  rintro e W1 ⟨rfl, hb⟩
  go_wp2
  go_ret
  exact ⟨by rw [← idx_any]; rfl, hb⟩
end Go.Proofs.Ytcfinlmocgbnbaa.Pr
end
section
namespace Go.Proofs.Ytcfinlmocgbnbaa.Pr
open Go.Proofs.Ytcfinlmocgbnbaa.Sq Go.RowKit Go.Shelf Go.Proofs.Ytcfinlmocgbnbaa.XB Go.Proofs.YtcfinlmocgbnbaaW.PrintWords Go.Proofs.YtcfinlmocgbnbaaW.PrintLast Go.Proofs.YtcfinlmocgbnbaaW.PrintMore
set_option linter.unusedVariables false
set_option linter.unusedSimpArgs false
def disk_Right.T4 : Bool × List (List Nat × List Nat) := (true, [([], []), ([0], [0]), ([1], [1]), ([2], [2]), ([3, 2], [2, 3]), ([2, 4], [2, 4]), ([5, 2], [5]), ([6], [6]), ([7, 6], [6, 7]), ([8, 6], [6, 8]), ([9, 6], [6, 9]), ([6, 10], [6, 10]), ([11, 6], [11]), ([12], [12]), ([13, 12], [12, 13]), ([12], [12]), ([14, 15, 12, 12], [12, 14, 15]), ([16, 12], [12, 16]), ([12, 17], [12, 17]), ([18, 16], [18]), ([19], [19]), ([20, 19], [19, 20]), ([19], [19]), ([21, 22, 19, 19], [19, 21, 22]), ([23, 19], [19, 23]), ([19, 24], [19, 24]), ([25, 23], [25]), ([26], [26]), ([27, 26], [26, 27]), ([26], [26]), ([29, 26, 26], [26, 29]), ([28, 30, 30, 26], [26, 28, 30]), ([31, 26], [26, 31]), ([26, 32], [26, 32]), ([33, 31, 0, 1, 2, 3, 4, 5, 6, 7, 8, 9, 10, 11, 12, 13, 14, 15, 16, 17, 18, 19, 20, 21, 22, 23, 24, 25, 26, 27, 28, 29, 30, 31, 32, 33], [33])])
def disk_Right.B4 : List Nat := [0, 1, 3, 7, 15, 31, 63, 127, 255, 511, 1023, 2047, 4095, 8191, 16383, 8191, 65535, 131071, 262143, 524287, 1048575, 2097151, 1048575, 8388607, 16777215, 33554431, 67108863, 134217727, 268435455, 134217727, 671088639, 2147483647, 4294967295, 8589934591, 17179869183]
theorem disk_Right.tab4 : rtab .any (opsOf Try.f20 4) = disk_Right.T4 := by kernel_rfl
theorem disk_Right.bits4 : waitsOk disk_Right.T4.2 disk_Right.B4 = true := by kernel_rfl
set_option maxHeartbeats 8000000 in
set_option maxRecDepth 100000 in
theorem disk_Right.way0 (A0 : Option Addr) (c0 : Nat) (su : List ByteArray) (A1 : Option Addr) (c1 : Nat) (so : List S24) (w : World) (hr0 : Kd.C Kd.string w A0 su.length su) (hc0 : su.length ≤ c0) (hr1 : Kd.C k24 w A1 so.length so) (hc1 : so.length ≤ c1) (h0 : decide ((su.length : Int) ≥ 1) = false) :
    Calls Try.prog 20 #[.agg #[.slice A0 su.length c0, .slice A1 so.length c1]] w fun e w' => e = .returned (.bool false) ∧ Below w.heap.size w w' := by
  have hu30 := Try.underlying30
  have HR0 := Aside0.mk hr0
  have HR1 := Aside0.mk hr1
  clear hr0 hr1
  go_enter Try.func20, Try.ntmps20
  go_wp2_with fail
  generalize hU : World.alloc w _ = U
  have BK0 := Aside0.mk (show U.heap[w.heap.size]? = some (.cells #[.slice A0 su.length c0, .slice A1 so.length c1] 30 (0, 0)) by rw [← hU]; exact heap_alloc_new w _)
  have HB0 := Aside0.mk (show Below w.heap.size w U by rw [← hU]; exact below_alloc (Below.refl _ _) _)
  clear hU
  have BK := Aside0.mk (XB.bkD BK0.out)
  have HB := Aside0.mk (below_drew1 HB0.out)
  clear BK0 HB0
  refine start_ (n := 35) (S := fun w' => w'.cell? ⟨w.heap.size, 0, none⟩ = some (.slice A0 su.length c0) ∧ w'.cell? ⟨w.heap.size, 1, none⟩ = some (.slice A1 so.length c1)) (ds := []) #[false, false, false, false, false, false, false, false, false, false, false, false, false, false, false, false, false, false, false, false, false, false, false, false, false, false, false, false, false, false, false, false, false, false, false] (by kernel_rfl) rfl rfl ⟨(blk_cell BK.out 0).trans rfl, (blk_cell BK.out 1).trans rfl⟩ (fun hHeld => ?_); refine with_tabW disk_Right.tab4 disk_Right.bits4 (fun HT_ HW_ => ?_)
  generalize U.drew = V at *
  refine pu_ 0 (some 9) HT_ rfl rfl (.inl ⟨by rfl, by intro w'; go_simp; with_reducible rfl⟩) (by simp only [Act.put, sa_, s0_, s1_, i64_w, i32_w]; rfl) ?_
  refine pu_ 1 (some 10) HT_ rfl rfl (.inl ⟨by rfl, by intro w'; go_simp; with_reducible rfl⟩) (by simp only [Act.put, sa_, s0_, s1_, i64_w, i32_w]; rfl) ?_
  refine pu_ 2 (some 11) HT_ rfl rfl (.inl ⟨by rfl, by intro w'; go_simp; with_reducible rfl⟩) (by simp only [Act.put, sa_, s0_, s1_, i64_w, i32_w]; rfl) ?_
  refine pu_ 3 (some 12) HT_ rfl rfl (.inr ⟨by rfl, rfl⟩) (by simp only [Act.put, sa_, s0_, s1_, i64_w, i32_w]; rfl) ?_
  refine pu_ 4 (some 13) HT_ rfl rfl (.inr ⟨by rfl, rfl⟩) (by simp only [Act.put, sa_, s0_, s1_, i64_w, i32_w]; rfl) ?_
  refine pu_ 5 (some 14) HT_ rfl rfl (.inl ⟨by rfl, by intro w'; go_simp; with_reducible rfl⟩) (by simp only [Act.put, sa_, s0_, s1_, i64_w, i32_w]; rfl) ?_
  refine pu_ 6 (some 15) HT_ rfl rfl (.inl ⟨by rfl, by intro w'; go_simp; with_reducible rfl⟩) (by simp only [Act.put, sa_, s0_, s1_, i64_w, i32_w]; rfl) ?_
  refine pu_ 7 (some 16) HT_ rfl rfl (.inr ⟨by rfl, rfl⟩) (by simp only [Act.put, sa_, s0_, s1_, i64_w, i32_w]; rfl) ?_
  refine pu_ 8 (some 17) HT_ rfl rfl (.inr ⟨by rfl, rfl⟩) (by simp only [Act.put, sa_, s0_, s1_, i64_w, i32_w]; rfl) ?_
  refine pu_ 9 (some 18) HT_ rfl rfl (.inr ⟨by rfl, rfl⟩) (by simp only [Act.put, sa_, s0_, s1_, i64_w, i32_w]; rfl) ?_
  refine pu_ 10 (some 19) HT_ rfl rfl (.inr ⟨by rfl, rfl⟩) (by simp only [Act.put, sa_, s0_, s1_, i64_w, i32_w]; rfl) ?_
  refine pu_ 11 (some 20) HT_ rfl rfl (.inl ⟨by rfl, by intro w'; go_simp; with_reducible rfl⟩) (by simp only [Act.put, sa_, s0_, s1_, i64_w, i32_w]; rfl) ?_
  refine pu_ 12 (some 21) HT_ rfl rfl (.inl ⟨by rfl, by intro w'; go_simp; with_reducible rfl⟩) (by simp only [Act.put, sa_, s0_, s1_, i64_w, i32_w]; rfl) ?_
  refine pu_ 13 (some 22) HT_ rfl rfl (.inr ⟨by rfl, rfl⟩) (by simp only [Act.put, sa_, s0_, s1_, i64_w, i32_w]; rfl) ?_
  refine pu_ 14 (some 23) HT_ rfl rfl (.inr ⟨by rfl, rfl⟩) (by simp only [Act.put, sa_, s0_, s1_, i64_w, i32_w]; rfl) ?_
  refine pu_ 15 (some 24) HT_ rfl rfl (.inr ⟨by rfl, rfl⟩) (by simp only [Act.put, sa_, s0_, s1_, i64_w, i32_w]; rfl) ?_
  refine pu_ 16 (some 25) HT_ rfl rfl (.inr ⟨by rfl, rfl⟩) (by simp only [Act.put, sa_, s0_, s1_, i64_w, i32_w]; rfl) ?_
  refine pu_ 17 (some 26) HT_ rfl rfl (.inr ⟨by rfl, rfl⟩) (by simp only [Act.put, sa_, s0_, s1_, i64_w, i32_w]; rfl) ?_
  refine pu_ 18 (some 27) HT_ rfl rfl (.inl ⟨by rfl, by intro w'; go_simp; with_reducible rfl⟩) (by simp only [Act.put, sa_, s0_, s1_, i64_w, i32_w]; rfl) ?_
  refine pu_ 19 (some 28) HT_ rfl rfl (.inl ⟨by rfl, by intro w'; go_simp; with_reducible rfl⟩) (by simp only [Act.put, sa_, s0_, s1_, i64_w, i32_w]; rfl) ?_
  refine pu_ 20 (some 29) HT_ rfl rfl (.inr ⟨by rfl, rfl⟩) (by simp only [Act.put, sa_, s0_, s1_, i64_w, i32_w]; rfl) ?_
  refine pu_ 21 (some 30) HT_ rfl rfl (.inr ⟨by rfl, rfl⟩) (by simp only [Act.put, sa_, s0_, s1_, i64_w, i32_w]; rfl) ?_
  refine pu_ 22 (some 31) HT_ rfl rfl (.inr ⟨by rfl, rfl⟩) (by simp only [Act.put, sa_, s0_, s1_, i64_w, i32_w]; rfl) ?_
  refine pu_ 23 (some 32) HT_ rfl rfl (.inr ⟨by rfl, rfl⟩) (by simp only [Act.put, sa_, s0_, s1_, i64_w, i32_w]; rfl) ?_
  refine pu_ 24 (some 33) HT_ rfl rfl (.inr ⟨by rfl, rfl⟩) (by simp only [Act.put, sa_, s0_, s1_, i64_w, i32_w]; rfl) ?_
  refine pu_ 25 (some 34) HT_ rfl rfl (.inl ⟨by rfl, by intro w'; go_simp; with_reducible rfl⟩) (by simp only [Act.put, sa_, s0_, s1_, i64_w, i32_w]; rfl) ?_
  refine pu_ 26 (some 35) HT_ rfl rfl (.inl ⟨by rfl, by intro w'; go_simp; with_reducible rfl⟩) (by simp only [Act.put, sa_, s0_, s1_, i64_w, i32_w]; rfl) ?_
  refine pu_ 27 (some 36) HT_ rfl rfl (.inr ⟨by rfl, rfl⟩) (by simp only [Act.put, sa_, s0_, s1_, i64_w, i32_w]; rfl) ?_
  refine pu_ 28 (some 37) HT_ rfl rfl (.inr ⟨by rfl, rfl⟩) (by simp only [Act.put, sa_, s0_, s1_, i64_w, i32_w]; rfl) ?_
  refine pu_ 29 (some 38) HT_ rfl rfl (.inr ⟨by rfl, rfl⟩) (by simp only [Act.put, sa_, s0_, s1_, i64_w, i32_w]; rfl) ?_
  refine pu_ 30 (some 39) HT_ rfl rfl (.inr ⟨by rfl, rfl⟩) (by simp only [Act.put, sa_, s0_, s1_, i64_w, i32_w]; rfl) ?_
  refine pu_ 31 (some 40) HT_ rfl rfl (.inr ⟨by rfl, rfl⟩) (by simp only [Act.put, sa_, s0_, s1_, i64_w, i32_w]; rfl) ?_
  refine pu_ 32 (some 41) HT_ rfl rfl (.inr ⟨by rfl, rfl⟩) (by simp only [Act.put, sa_, s0_, s1_, i64_w, i32_w]; rfl) ?_
  refine pu_ 33 (some 42) HT_ rfl rfl (.inl ⟨by rfl, by intro w'; go_simp; with_reducible rfl⟩) (by simp only [Act.put, sa_, s0_, s1_, i64_w, i32_w]; rfl) ?_
  refine pu_ 34 (some 2) HT_ rfl rfl (.inl ⟨by rfl, by intro w'; go_simp; with_reducible rfl⟩) (by simp only [Act.put, sa_, s0_, s1_, i64_w, i32_w]; rfl) ?_
  refine done_ (done_of HT_.out (by kernel_rfl)) ?_
  go_wp2
  go_ret
  exact ⟨rfl, HB.out⟩
set_option maxHeartbeats 8000000 in
set_option maxRecDepth 100000 in
theorem disk_Right.way1 (A0 : Option Addr) (c0 : Nat) (su : List ByteArray) (A1 : Option Addr) (c1 : Nat) (so : List S24) (w : World) (hr0 : Kd.C Kd.string w A0 su.length su) (hc0 : su.length ≤ c0) (hr1 : Kd.C k24 w A1 so.length so) (hc1 : so.length ≤ c1) (h0 : decide ((su.length : Int) ≥ 1) = true) (h1 : decide ((su.length : Int) ≤ 400) = false) :
    Calls Try.prog 20 #[.agg #[.slice A0 su.length c0, .slice A1 so.length c1]] w fun e w' => e = .returned (.bool false) ∧ Below w.heap.size w w' := by
  have hu30 := Try.underlying30
  have HR0 := Aside0.mk hr0
  have HR1 := Aside0.mk hr1
  clear hr0 hr1
  go_enter Try.func20, Try.ntmps20
  go_wp2_with fail
  generalize hU : World.alloc w _ = U
  have BK0 := Aside0.mk (show U.heap[w.heap.size]? = some (.cells #[.slice A0 su.length c0, .slice A1 so.length c1] 30 (0, 0)) by rw [← hU]; exact heap_alloc_new w _)
  have HB0 := Aside0.mk (show Below w.heap.size w U by rw [← hU]; exact below_alloc (Below.refl _ _) _)
  clear hU
  have BK := Aside0.mk (XB.bkD BK0.out)
  have HB := Aside0.mk (below_drew1 HB0.out)
  clear BK0 HB0
  refine start_ (n := 35) (S := fun w' => w'.cell? ⟨w.heap.size, 0, none⟩ = some (.slice A0 su.length c0) ∧ w'.cell? ⟨w.heap.size, 1, none⟩ = some (.slice A1 so.length c1)) (ds := []) #[false, false, false, false, false, false, false, false, false, false, false, false, false, false, false, false, false, false, false, false, false, false, false, false, false, false, false, false, false, false, false, false, false, false, false] (by kernel_rfl) rfl rfl ⟨(blk_cell BK.out 0).trans rfl, (blk_cell BK.out 1).trans rfl⟩ (fun hHeld => ?_); refine with_tabW disk_Right.tab4 disk_Right.bits4 (fun HT_ HW_ => ?_)
  generalize U.drew = V at *
  refine pu_ 0 (some 9) HT_ rfl rfl (.inl ⟨by rfl, by intro w'; go_simp; with_reducible rfl⟩) (by simp only [Act.put, sa_, s0_, s1_, i64_w, i32_w]; rfl) ?_
  refine pu_ 1 (some 10) HT_ rfl rfl (.inl ⟨by rfl, by intro w'; go_simp; with_reducible rfl⟩) (by simp only [Act.put, sa_, s0_, s1_, i64_w, i32_w]; rfl) ?_
  refine pu_ 2 (some 11) HT_ rfl rfl (.inl ⟨by rfl, by intro w'; go_simp; with_reducible rfl⟩) (by simp only [Act.put, sa_, s0_, s1_, i64_w, i32_w]; rfl) ?_
  refine pu_ 3 (some 12) HT_ rfl rfl (.inl ⟨by rfl, by intro w'; go_simp; with_reducible rfl⟩) (by simp only [Act.put, sa_, s0_, s1_, i64_w, i32_w]; rfl) ?_
  refine pu_ 4 (some 13) HT_ rfl rfl (.inl ⟨by rfl, by intro w'; go_simp; with_reducible rfl⟩) (by simp only [Act.put, sa_, s0_, s1_, i64_w, i32_w]; rfl) ?_
  refine pu_ 5 (some 14) HT_ rfl rfl (.inl ⟨by rfl, by intro w'; go_simp; with_reducible rfl⟩) (by simp only [Act.put, sa_, s0_, s1_, i64_w, i32_w]; rfl) ?_
  refine pu_ 6 (some 15) HT_ rfl rfl (.inl ⟨by rfl, by intro w'; go_simp; with_reducible rfl⟩) (by simp only [Act.put, sa_, s0_, s1_, i64_w, i32_w]; rfl) ?_
  refine pu_ 7 (some 16) HT_ rfl rfl (.inr ⟨by rfl, rfl⟩) (by simp only [Act.put, sa_, s0_, s1_, i64_w, i32_w]; rfl) ?_
  refine pu_ 8 (some 17) HT_ rfl rfl (.inr ⟨by rfl, rfl⟩) (by simp only [Act.put, sa_, s0_, s1_, i64_w, i32_w]; rfl) ?_
  refine pu_ 9 (some 18) HT_ rfl rfl (.inr ⟨by rfl, rfl⟩) (by simp only [Act.put, sa_, s0_, s1_, i64_w, i32_w]; rfl) ?_
  refine pu_ 10 (some 19) HT_ rfl rfl (.inr ⟨by rfl, rfl⟩) (by simp only [Act.put, sa_, s0_, s1_, i64_w, i32_w]; rfl) ?_
  refine pu_ 11 (some 20) HT_ rfl rfl (.inl ⟨by rfl, by intro w'; go_simp; with_reducible rfl⟩) (by simp only [Act.put, sa_, s0_, s1_, i64_w, i32_w]; rfl) ?_
  refine pu_ 12 (some 21) HT_ rfl rfl (.inl ⟨by rfl, by intro w'; go_simp; with_reducible rfl⟩) (by simp only [Act.put, sa_, s0_, s1_, i64_w, i32_w]; rfl) ?_
  refine pu_ 13 (some 22) HT_ rfl rfl (.inr ⟨by rfl, rfl⟩) (by simp only [Act.put, sa_, s0_, s1_, i64_w, i32_w]; rfl) ?_
  refine pu_ 14 (some 23) HT_ rfl rfl (.inr ⟨by rfl, rfl⟩) (by simp only [Act.put, sa_, s0_, s1_, i64_w, i32_w]; rfl) ?_
  refine pu_ 15 (some 24) HT_ rfl rfl (.inr ⟨by rfl, rfl⟩) (by simp only [Act.put, sa_, s0_, s1_, i64_w, i32_w]; rfl) ?_
  refine pu_ 16 (some 25) HT_ rfl rfl (.inr ⟨by rfl, rfl⟩) (by simp only [Act.put, sa_, s0_, s1_, i64_w, i32_w]; rfl) ?_
  refine pu_ 17 (some 26) HT_ rfl rfl (.inr ⟨by rfl, rfl⟩) (by simp only [Act.put, sa_, s0_, s1_, i64_w, i32_w]; rfl) ?_
  refine pu_ 18 (some 27) HT_ rfl rfl (.inl ⟨by rfl, by intro w'; go_simp; with_reducible rfl⟩) (by simp only [Act.put, sa_, s0_, s1_, i64_w, i32_w]; rfl) ?_
  refine pu_ 19 (some 28) HT_ rfl rfl (.inl ⟨by rfl, by intro w'; go_simp; with_reducible rfl⟩) (by simp only [Act.put, sa_, s0_, s1_, i64_w, i32_w]; rfl) ?_
  refine pu_ 20 (some 29) HT_ rfl rfl (.inr ⟨by rfl, rfl⟩) (by simp only [Act.put, sa_, s0_, s1_, i64_w, i32_w]; rfl) ?_
  refine pu_ 21 (some 30) HT_ rfl rfl (.inr ⟨by rfl, rfl⟩) (by simp only [Act.put, sa_, s0_, s1_, i64_w, i32_w]; rfl) ?_
  refine pu_ 22 (some 31) HT_ rfl rfl (.inr ⟨by rfl, rfl⟩) (by simp only [Act.put, sa_, s0_, s1_, i64_w, i32_w]; rfl) ?_
  refine pu_ 23 (some 32) HT_ rfl rfl (.inr ⟨by rfl, rfl⟩) (by simp only [Act.put, sa_, s0_, s1_, i64_w, i32_w]; rfl) ?_
  refine pu_ 24 (some 33) HT_ rfl rfl (.inr ⟨by rfl, rfl⟩) (by simp only [Act.put, sa_, s0_, s1_, i64_w, i32_w]; rfl) ?_
  refine pu_ 25 (some 34) HT_ rfl rfl (.inl ⟨by rfl, by intro w'; go_simp; with_reducible rfl⟩) (by simp only [Act.put, sa_, s0_, s1_, i64_w, i32_w]; rfl) ?_
  refine pu_ 26 (some 35) HT_ rfl rfl (.inl ⟨by rfl, by intro w'; go_simp; with_reducible rfl⟩) (by simp only [Act.put, sa_, s0_, s1_, i64_w, i32_w]; rfl) ?_
  refine pu_ 27 (some 36) HT_ rfl rfl (.inr ⟨by rfl, rfl⟩) (by simp only [Act.put, sa_, s0_, s1_, i64_w, i32_w]; rfl) ?_
  refine pu_ 28 (some 37) HT_ rfl rfl (.inr ⟨by rfl, rfl⟩) (by simp only [Act.put, sa_, s0_, s1_, i64_w, i32_w]; rfl) ?_
  refine pu_ 29 (some 38) HT_ rfl rfl (.inr ⟨by rfl, rfl⟩) (by simp only [Act.put, sa_, s0_, s1_, i64_w, i32_w]; rfl) ?_
  refine pu_ 30 (some 39) HT_ rfl rfl (.inr ⟨by rfl, rfl⟩) (by simp only [Act.put, sa_, s0_, s1_, i64_w, i32_w]; rfl) ?_
  refine pu_ 31 (some 40) HT_ rfl rfl (.inr ⟨by rfl, rfl⟩) (by simp only [Act.put, sa_, s0_, s1_, i64_w, i32_w]; rfl) ?_
  refine pu_ 32 (some 41) HT_ rfl rfl (.inr ⟨by rfl, rfl⟩) (by simp only [Act.put, sa_, s0_, s1_, i64_w, i32_w]; rfl) ?_
  refine pu_ 33 (some 42) HT_ rfl rfl (.inl ⟨by rfl, by intro w'; go_simp; with_reducible rfl⟩) (by simp only [Act.put, sa_, s0_, s1_, i64_w, i32_w]; rfl) ?_
  refine pu_ 34 (some 2) HT_ rfl rfl (.inl ⟨by rfl, by intro w'; go_simp; with_reducible rfl⟩) (by simp only [Act.put, sa_, s0_, s1_, i64_w, i32_w]; rfl) ?_
  refine done_ (done_of HT_.out (by kernel_rfl)) ?_
  go_wp2
  go_ret
  exact ⟨rfl, HB.out⟩
set_option maxHeartbeats 8000000 in
set_option maxRecDepth 100000 in
theorem disk_Right.way2 (A0 : Option Addr) (c0 : Nat) (su : List ByteArray) (A1 : Option Addr) (c1 : Nat) (so : List S24) (w : World) (hr0 : Kd.C Kd.string w A0 su.length su) (hc0 : su.length ≤ c0) (hr1 : Kd.C k24 w A1 so.length so) (hc1 : so.length ≤ c1) (h0 : decide ((su.length : Int) ≥ 1) = true) (h1 : decide ((su.length : Int) ≤ 400) = true) (h2 : decide ((so.length : Int) ≤ 3000) = false) :
    Calls Try.prog 20 #[.agg #[.slice A0 su.length c0, .slice A1 so.length c1]] w fun e w' => e = .returned (.bool false) ∧ Below w.heap.size w w' := by
  have hu30 := Try.underlying30
  have HR0 := Aside0.mk hr0
  have HR1 := Aside0.mk hr1
  clear hr0 hr1
  go_enter Try.func20, Try.ntmps20
  go_wp2_with fail
  generalize hU : World.alloc w _ = U
  have BK0 := Aside0.mk (show U.heap[w.heap.size]? = some (.cells #[.slice A0 su.length c0, .slice A1 so.length c1] 30 (0, 0)) by rw [← hU]; exact heap_alloc_new w _)
  have HB0 := Aside0.mk (show Below w.heap.size w U by rw [← hU]; exact below_alloc (Below.refl _ _) _)
  clear hU
  have BK := Aside0.mk (XB.bkD BK0.out)
  have HB := Aside0.mk (below_drew1 HB0.out)
  clear BK0 HB0
  refine start_ (n := 35) (S := fun w' => w'.cell? ⟨w.heap.size, 0, none⟩ = some (.slice A0 su.length c0) ∧ w'.cell? ⟨w.heap.size, 1, none⟩ = some (.slice A1 so.length c1)) (ds := []) #[false, false, false, false, false, false, false, false, false, false, false, false, false, false, false, false, false, false, false, false, false, false, false, false, false, false, false, false, false, false, false, false, false, false, false] (by kernel_rfl) rfl rfl ⟨(blk_cell BK.out 0).trans rfl, (blk_cell BK.out 1).trans rfl⟩ (fun hHeld => ?_); refine with_tabW disk_Right.tab4 disk_Right.bits4 (fun HT_ HW_ => ?_)
  generalize U.drew = V at *
  refine pu_ 0 (some 9) HT_ rfl rfl (.inl ⟨by rfl, by intro w'; go_simp; with_reducible rfl⟩) (by simp only [Act.put, sa_, s0_, s1_, i64_w, i32_w]; rfl) ?_
  refine pu_ 1 (some 10) HT_ rfl rfl (.inl ⟨by rfl, by intro w'; go_simp; with_reducible rfl⟩) (by simp only [Act.put, sa_, s0_, s1_, i64_w, i32_w]; rfl) ?_
  refine pu_ 2 (some 11) HT_ rfl rfl (.inl ⟨by rfl, by intro w'; go_simp; with_reducible rfl⟩) (by simp only [Act.put, sa_, s0_, s1_, i64_w, i32_w]; rfl) ?_
  refine pu_ 3 (some 12) HT_ rfl rfl (.inl ⟨by rfl, by intro w'; go_simp; with_reducible rfl⟩) (by simp only [Act.put, sa_, s0_, s1_, i64_w, i32_w]; rfl) ?_
  refine pu_ 4 (some 13) HT_ rfl rfl (.inl ⟨by rfl, by intro w'; go_simp; with_reducible rfl⟩) (by simp only [Act.put, sa_, s0_, s1_, i64_w, i32_w]; rfl) ?_
  refine pu_ 5 (some 14) HT_ rfl rfl (.inl ⟨by rfl, by intro w'; go_simp; with_reducible rfl⟩) (by simp only [Act.put, sa_, s0_, s1_, i64_w, i32_w]; rfl) ?_
  refine pu_ 6 (some 15) HT_ rfl rfl (.inl ⟨by rfl, by intro w'; go_simp; with_reducible rfl⟩) (by simp only [Act.put, sa_, s0_, s1_, i64_w, i32_w]; rfl) ?_
  refine pu_ 7 (some 16) HT_ rfl rfl (.inl ⟨by rfl, by intro w'; go_simp; with_reducible rfl⟩) (by simp only [Act.put, sa_, s0_, s1_, i64_w, i32_w]; rfl) ?_
  refine tk_ 8 (some 17) HT_ HW_ rfl rfl (.inl ⟨by rfl, by rintro w' ⟨s0, s1⟩; go_simp; with_reducible rfl⟩) hHeld (by simp only [Act.put, sa_, s0_, s1_, i64_w, i32_w]; rfl) ?_
  refine pu_ 9 (some 18) HT_ rfl rfl (.inl ⟨by rfl, by intro w'; go_simp; with_reducible rfl⟩) (by simp only [Act.put, sa_, s0_, s1_, i64_w, i32_w]; rfl) ?_
  refine pu_ 10 (some 19) HT_ rfl rfl (.inl ⟨by rfl, by intro w'; go_simp; with_reducible rfl⟩) (by simp only [Act.put, sa_, s0_, s1_, i64_w, i32_w]; rfl) ?_
  refine pu_ 11 (some 20) HT_ rfl rfl (.inl ⟨by rfl, by intro w'; go_simp; with_reducible rfl⟩) (by simp only [Act.put, sa_, s0_, s1_, i64_w, i32_w]; rfl) ?_
  refine pu_ 12 (some 21) HT_ rfl rfl (.inl ⟨by rfl, by intro w'; go_simp; with_reducible rfl⟩) (by simp only [Act.put, sa_, s0_, s1_, i64_w, i32_w]; rfl) ?_
  refine pu_ 13 (some 22) HT_ rfl rfl (.inr ⟨by rfl, rfl⟩) (by simp only [Act.put, sa_, s0_, s1_, i64_w, i32_w]; rfl) ?_
  refine pu_ 14 (some 23) HT_ rfl rfl (.inr ⟨by rfl, rfl⟩) (by simp only [Act.put, sa_, s0_, s1_, i64_w, i32_w]; rfl) ?_
  refine pu_ 15 (some 24) HT_ rfl rfl (.inr ⟨by rfl, rfl⟩) (by simp only [Act.put, sa_, s0_, s1_, i64_w, i32_w]; rfl) ?_
  refine pu_ 16 (some 25) HT_ rfl rfl (.inr ⟨by rfl, rfl⟩) (by simp only [Act.put, sa_, s0_, s1_, i64_w, i32_w]; rfl) ?_
  refine pu_ 17 (some 26) HT_ rfl rfl (.inr ⟨by rfl, rfl⟩) (by simp only [Act.put, sa_, s0_, s1_, i64_w, i32_w]; rfl) ?_
  refine pu_ 18 (some 27) HT_ rfl rfl (.inl ⟨by rfl, by intro w'; go_simp; with_reducible rfl⟩) (by simp only [Act.put, sa_, s0_, s1_, i64_w, i32_w]; rfl) ?_
  refine pu_ 19 (some 28) HT_ rfl rfl (.inl ⟨by rfl, by intro w'; go_simp; with_reducible rfl⟩) (by simp only [Act.put, sa_, s0_, s1_, i64_w, i32_w]; rfl) ?_
  refine pu_ 20 (some 29) HT_ rfl rfl (.inr ⟨by rfl, rfl⟩) (by simp only [Act.put, sa_, s0_, s1_, i64_w, i32_w]; rfl) ?_
  refine pu_ 21 (some 30) HT_ rfl rfl (.inr ⟨by rfl, rfl⟩) (by simp only [Act.put, sa_, s0_, s1_, i64_w, i32_w]; rfl) ?_
  refine pu_ 22 (some 31) HT_ rfl rfl (.inr ⟨by rfl, rfl⟩) (by simp only [Act.put, sa_, s0_, s1_, i64_w, i32_w]; rfl) ?_
  refine pu_ 23 (some 32) HT_ rfl rfl (.inr ⟨by rfl, rfl⟩) (by simp only [Act.put, sa_, s0_, s1_, i64_w, i32_w]; rfl) ?_
  refine pu_ 24 (some 33) HT_ rfl rfl (.inr ⟨by rfl, rfl⟩) (by simp only [Act.put, sa_, s0_, s1_, i64_w, i32_w]; rfl) ?_
  refine pu_ 25 (some 34) HT_ rfl rfl (.inl ⟨by rfl, by intro w'; go_simp; with_reducible rfl⟩) (by simp only [Act.put, sa_, s0_, s1_, i64_w, i32_w]; rfl) ?_
  refine pu_ 26 (some 35) HT_ rfl rfl (.inl ⟨by rfl, by intro w'; go_simp; with_reducible rfl⟩) (by simp only [Act.put, sa_, s0_, s1_, i64_w, i32_w]; rfl) ?_
  refine pu_ 27 (some 36) HT_ rfl rfl (.inr ⟨by rfl, rfl⟩) (by simp only [Act.put, sa_, s0_, s1_, i64_w, i32_w]; rfl) ?_
  refine pu_ 28 (some 37) HT_ rfl rfl (.inr ⟨by rfl, rfl⟩) (by simp only [Act.put, sa_, s0_, s1_, i64_w, i32_w]; rfl) ?_
  refine pu_ 29 (some 38) HT_ rfl rfl (.inr ⟨by rfl, rfl⟩) (by simp only [Act.put, sa_, s0_, s1_, i64_w, i32_w]; rfl) ?_
  refine pu_ 30 (some 39) HT_ rfl rfl (.inr ⟨by rfl, rfl⟩) (by simp only [Act.put, sa_, s0_, s1_, i64_w, i32_w]; rfl) ?_
  refine pu_ 31 (some 40) HT_ rfl rfl (.inr ⟨by rfl, rfl⟩) (by simp only [Act.put, sa_, s0_, s1_, i64_w, i32_w]; rfl) ?_
  refine pu_ 32 (some 41) HT_ rfl rfl (.inr ⟨by rfl, rfl⟩) (by simp only [Act.put, sa_, s0_, s1_, i64_w, i32_w]; rfl) ?_
  refine pu_ 33 (some 42) HT_ rfl rfl (.inl ⟨by rfl, by intro w'; go_simp; with_reducible rfl⟩) (by simp only [Act.put, sa_, s0_, s1_, i64_w, i32_w]; rfl) ?_
  refine pu_ 34 (some 2) HT_ rfl rfl (.inl ⟨by rfl, by intro w'; go_simp; with_reducible rfl⟩) (by simp only [Act.put, sa_, s0_, s1_, i64_w, i32_w]; rfl) ?_
  refine done_ (done_of HT_.out (by kernel_rfl)) ?_
  go_wp2
  go_ret
  exact ⟨rfl, HB.out⟩
set_option maxHeartbeats 8000000 in
set_option maxRecDepth 100000 in
theorem disk_Right.way3 (A0 : Option Addr) (c0 : Nat) (su : List ByteArray) (A1 : Option Addr) (c1 : Nat) (so : List S24) (w : World) (hr0 : Kd.C Kd.string w A0 su.length su) (hc0 : su.length ≤ c0) (hr1 : Kd.C k24 w A1 so.length so) (hc1 : so.length ≤ c1) (h0 : decide ((su.length : Int) ≥ 1) = true) (h1 : decide ((su.length : Int) ≤ 400) = true) (h2 : decide ((so.length : Int) ≤ 3000) = true) (b4 : su.any shortB = true) :
    Calls Try.prog 20 #[.agg #[.slice A0 su.length c0, .slice A1 so.length c1]] w fun e w' => e = .returned (.bool false) ∧ Below w.heap.size w w' := by
  have hu30 := Try.underlying30
  have HR0 := Aside0.mk hr0
  have HR1 := Aside0.mk hr1
  clear hr0 hr1
  go_enter Try.func20, Try.ntmps20
  go_wp2_with fail
  generalize hU : World.alloc w _ = U
  have BK0 := Aside0.mk (show U.heap[w.heap.size]? = some (.cells #[.slice A0 su.length c0, .slice A1 so.length c1] 30 (0, 0)) by rw [← hU]; exact heap_alloc_new w _)
  have HB0 := Aside0.mk (show Below w.heap.size w U by rw [← hU]; exact below_alloc (Below.refl _ _) _)
  clear hU
  have BK := Aside0.mk (XB.bkD BK0.out)
  have HB := Aside0.mk (below_drew1 HB0.out)
  clear BK0 HB0
  refine start_ (n := 35) (S := fun w' => w'.cell? ⟨w.heap.size, 0, none⟩ = some (.slice A0 su.length c0) ∧ w'.cell? ⟨w.heap.size, 1, none⟩ = some (.slice A1 so.length c1)) (ds := []) #[false, false, false, false, false, false, false, false, false, false, false, false, false, false, false, false, false, false, false, false, false, false, false, false, false, false, false, false, false, false, false, false, false, false, false] (by kernel_rfl) rfl rfl ⟨(blk_cell BK.out 0).trans rfl, (blk_cell BK.out 1).trans rfl⟩ (fun hHeld => ?_); refine with_tabW disk_Right.tab4 disk_Right.bits4 (fun HT_ HW_ => ?_)
  generalize U.drew = V at *
  refine pu_ 0 (some 9) HT_ rfl rfl (.inl ⟨by rfl, by intro w'; go_simp; with_reducible rfl⟩) (by simp only [Act.put, sa_, s0_, s1_, i64_w, i32_w]; rfl) ?_
  refine pu_ 1 (some 10) HT_ rfl rfl (.inl ⟨by rfl, by intro w'; go_simp; with_reducible rfl⟩) (by simp only [Act.put, sa_, s0_, s1_, i64_w, i32_w]; rfl) ?_
  refine pu_ 2 (some 11) HT_ rfl rfl (.inl ⟨by rfl, by intro w'; go_simp; with_reducible rfl⟩) (by simp only [Act.put, sa_, s0_, s1_, i64_w, i32_w]; rfl) ?_
  refine pu_ 3 (some 12) HT_ rfl rfl (.inl ⟨by rfl, by intro w'; go_simp; with_reducible rfl⟩) (by simp only [Act.put, sa_, s0_, s1_, i64_w, i32_w]; rfl) ?_
  refine pu_ 4 (some 13) HT_ rfl rfl (.inl ⟨by rfl, by intro w'; go_simp; with_reducible rfl⟩) (by simp only [Act.put, sa_, s0_, s1_, i64_w, i32_w]; rfl) ?_
  refine pu_ 5 (some 14) HT_ rfl rfl (.inl ⟨by rfl, by intro w'; go_simp; with_reducible rfl⟩) (by simp only [Act.put, sa_, s0_, s1_, i64_w, i32_w]; rfl) ?_
  refine pu_ 6 (some 15) HT_ rfl rfl (.inl ⟨by rfl, by intro w'; go_simp; with_reducible rfl⟩) (by simp only [Act.put, sa_, s0_, s1_, i64_w, i32_w]; rfl) ?_
  refine pu_ 7 (some 16) HT_ rfl rfl (.inl ⟨by rfl, by intro w'; go_simp; with_reducible rfl⟩) (by simp only [Act.put, sa_, s0_, s1_, i64_w, i32_w]; rfl) ?_
  refine tk_ 8 (some 17) HT_ HW_ rfl rfl (.inl ⟨by rfl, by rintro w' ⟨s0, s1⟩; go_simp; with_reducible rfl⟩) hHeld (by simp only [Act.put, sa_, s0_, s1_, i64_w, i32_w]; rfl) ?_
  refine pu_ 9 (some 18) HT_ rfl rfl (.inl ⟨by rfl, by intro w'; go_simp; with_reducible rfl⟩) (by simp only [Act.put, sa_, s0_, s1_, i64_w, i32_w]; rfl) ?_
  refine pu_ 10 (some 19) HT_ rfl rfl (.inl ⟨by rfl, by intro w'; go_simp; with_reducible rfl⟩) (by simp only [Act.put, sa_, s0_, s1_, i64_w, i32_w]; rfl) ?_
  refine pu_ 11 (some 20) HT_ rfl rfl (.inl ⟨by rfl, by intro w'; go_simp; with_reducible rfl⟩) (by simp only [Act.put, sa_, s0_, s1_, i64_w, i32_w]; rfl) ?_
  refine pu_ 12 (some 21) HT_ rfl rfl (.inl ⟨by rfl, by intro w'; go_simp; with_reducible rfl⟩) (by simp only [Act.put, sa_, s0_, s1_, i64_w, i32_w]; rfl) ?_
  refine pu_ 13 (some 22) HT_ rfl rfl (.inl ⟨by rfl, by intro w'; go_simp; with_reducible rfl⟩) (by simp only [Act.put, sa_, s0_, s1_, i64_w, i32_w]; rfl) ?_
  refine tk_ 14 (some 23) HT_ HW_ rfl rfl (.inl ⟨by rfl, by rintro w' ⟨s0, s1⟩; go_simp; with_reducible rfl⟩) hHeld (by simp only [Act.put, sa_, s0_, s1_, i64_w, i32_w]; rfl) ?_
  refine pu_ 15 (some 24) HT_ rfl rfl (.inl ⟨by rfl, by intro w'; go_simp; with_reducible rfl⟩) (by simp only [Act.put, sa_, s0_, s1_, i64_w, i32_w]; rfl) ?_
  refine on_ 16 (some 25) HT_ rfl rfl (fun K hK => ?_)
  refine goes_ Try.func46 (by kernel_rfl) rfl #[.slice A0 su.length c0, .func (.func 45) #[] #[]] (by rfl) rfl rfl (by (try simp only [List.map_toArray, List.map_cons, List.map_nil]) <;> rfl) ?_
  refine (contains46_calls 45 #[] shortB A0 c0 su _ (Kd.C_below HR0.out HB.out) hc0 (Kd.C_max HR0.out) (fun _ _ => rfl) (fun x W _ => by simpa using short_calls x W)).mono ?_
  rintro e W2 ⟨rfl, hb⟩
  refine ⟨_, rfl, ?_⟩
  have n0_ := Aside0.mk (below_step HB.out hb); have n1_ := Aside0.mk (blk_same BK.out hb); clear HB BK; have HB := n0_; have BK := n1_; clear n0_ n1_ hb
  refine hK.out _ _ ⟨(blk_cell BK.out 0).trans rfl, (blk_cell BK.out 1).trans rfl⟩ (fun hHeld => ?_)
  clear hK K
  refine norm_ (by show Act.put _ (some 25) _ = _; simp only [Act.put, sa_, s0_, s1_, i64_w, i32_w]; rfl) ?_
  (try rw [b4])
  refine pu_ 17 (some 26) HT_ rfl rfl (.inl ⟨by rfl, by intro w'; go_simp; with_reducible rfl⟩) (by simp only [Act.put, sa_, s0_, s1_, i64_w, i32_w]; rfl) ?_
  refine pu_ 18 (some 27) HT_ rfl rfl (.inl ⟨by rfl, by intro w'; go_simp; with_reducible rfl⟩) (by simp only [Act.put, sa_, s0_, s1_, i64_w, i32_w]; rfl) ?_
  refine pu_ 19 (some 28) HT_ rfl rfl (.inl ⟨by rfl, by intro w'; go_simp; with_reducible rfl⟩) (by simp only [Act.put, sa_, s0_, s1_, i64_w, i32_w]; rfl) ?_
  refine pu_ 20 (some 29) HT_ rfl rfl (.inr ⟨by rfl, rfl⟩) (by simp only [Act.put, sa_, s0_, s1_, i64_w, i32_w]; rfl) ?_
  refine pu_ 21 (some 30) HT_ rfl rfl (.inr ⟨by rfl, rfl⟩) (by simp only [Act.put, sa_, s0_, s1_, i64_w, i32_w]; rfl) ?_
  refine pu_ 22 (some 31) HT_ rfl rfl (.inr ⟨by rfl, rfl⟩) (by simp only [Act.put, sa_, s0_, s1_, i64_w, i32_w]; rfl) ?_
  refine pu_ 23 (some 32) HT_ rfl rfl (.inr ⟨by rfl, rfl⟩) (by simp only [Act.put, sa_, s0_, s1_, i64_w, i32_w]; rfl) ?_
  refine pu_ 24 (some 33) HT_ rfl rfl (.inr ⟨by rfl, rfl⟩) (by simp only [Act.put, sa_, s0_, s1_, i64_w, i32_w]; rfl) ?_
  refine pu_ 25 (some 34) HT_ rfl rfl (.inl ⟨by rfl, by intro w'; go_simp; with_reducible rfl⟩) (by simp only [Act.put, sa_, s0_, s1_, i64_w, i32_w]; rfl) ?_
  refine pu_ 26 (some 35) HT_ rfl rfl (.inl ⟨by rfl, by intro w'; go_simp; with_reducible rfl⟩) (by simp only [Act.put, sa_, s0_, s1_, i64_w, i32_w]; rfl) ?_
  refine pu_ 27 (some 36) HT_ rfl rfl (.inr ⟨by rfl, rfl⟩) (by simp only [Act.put, sa_, s0_, s1_, i64_w, i32_w]; rfl) ?_
  refine pu_ 28 (some 37) HT_ rfl rfl (.inr ⟨by rfl, rfl⟩) (by simp only [Act.put, sa_, s0_, s1_, i64_w, i32_w]; rfl) ?_
  refine pu_ 29 (some 38) HT_ rfl rfl (.inr ⟨by rfl, rfl⟩) (by simp only [Act.put, sa_, s0_, s1_, i64_w, i32_w]; rfl) ?_
  refine pu_ 30 (some 39) HT_ rfl rfl (.inr ⟨by rfl, rfl⟩) (by simp only [Act.put, sa_, s0_, s1_, i64_w, i32_w]; rfl) ?_
  refine pu_ 31 (some 40) HT_ rfl rfl (.inr ⟨by rfl, rfl⟩) (by simp only [Act.put, sa_, s0_, s1_, i64_w, i32_w]; rfl) ?_
  refine pu_ 32 (some 41) HT_ rfl rfl (.inr ⟨by rfl, rfl⟩) (by simp only [Act.put, sa_, s0_, s1_, i64_w, i32_w]; rfl) ?_
  refine pu_ 33 (some 42) HT_ rfl rfl (.inl ⟨by rfl, by intro w'; go_simp; with_reducible rfl⟩) (by simp only [Act.put, sa_, s0_, s1_, i64_w, i32_w]; rfl) ?_
  refine pu_ 34 (some 2) HT_ rfl rfl (.inl ⟨by rfl, by intro w'; go_simp; with_reducible rfl⟩) (by simp only [Act.put, sa_, s0_, s1_, i64_w, i32_w]; rfl) ?_
  refine done_ (done_of HT_.out (by kernel_rfl)) ?_
  go_wp2
  go_ret
  exact ⟨rfl, HB.out⟩
set_option maxHeartbeats 8000000 in
set_option maxRecDepth 100000 in
theorem disk_Right.way4 (A0 : Option Addr) (c0 : Nat) (su : List ByteArray) (A1 : Option Addr) (c1 : Nat) (so : List S24) (w : World) (hr0 : Kd.C Kd.string w A0 su.length su) (hc0 : su.length ≤ c0) (hr1 : Kd.C k24 w A1 so.length so) (hc1 : so.length ≤ c1) (h0 : decide ((su.length : Int) ≥ 1) = true) (h1 : decide ((su.length : Int) ≤ 400) = true) (h2 : decide ((so.length : Int) ≤ 3000) = true) (b4 : su.any shortB = false) (b5 : so.any syncB = true) :
    Calls Try.prog 20 #[.agg #[.slice A0 su.length c0, .slice A1 so.length c1]] w fun e w' => e = .returned (.bool false) ∧ Below w.heap.size w w' := by
  have hu30 := Try.underlying30
  have HR0 := Aside0.mk hr0
  have HR1 := Aside0.mk hr1
  clear hr0 hr1
  go_enter Try.func20, Try.ntmps20
  go_wp2_with fail
  generalize hU : World.alloc w _ = U
  have BK0 := Aside0.mk (show U.heap[w.heap.size]? = some (.cells #[.slice A0 su.length c0, .slice A1 so.length c1] 30 (0, 0)) by rw [← hU]; exact heap_alloc_new w _)
  have HB0 := Aside0.mk (show Below w.heap.size w U by rw [← hU]; exact below_alloc (Below.refl _ _) _)
  clear hU
  have BK := Aside0.mk (XB.bkD BK0.out)
  have HB := Aside0.mk (below_drew1 HB0.out)
  clear BK0 HB0
  refine start_ (n := 35) (S := fun w' => w'.cell? ⟨w.heap.size, 0, none⟩ = some (.slice A0 su.length c0) ∧ w'.cell? ⟨w.heap.size, 1, none⟩ = some (.slice A1 so.length c1)) (ds := []) #[false, false, false, false, false, false, false, false, false, false, false, false, false, false, false, false, false, false, false, false, false, false, false, false, false, false, false, false, false, false, false, false, false, false, false] (by kernel_rfl) rfl rfl ⟨(blk_cell BK.out 0).trans rfl, (blk_cell BK.out 1).trans rfl⟩ (fun hHeld => ?_); refine with_tabW disk_Right.tab4 disk_Right.bits4 (fun HT_ HW_ => ?_)
  generalize U.drew = V at *
  refine pu_ 0 (some 9) HT_ rfl rfl (.inl ⟨by rfl, by intro w'; go_simp; with_reducible rfl⟩) (by simp only [Act.put, sa_, s0_, s1_, i64_w, i32_w]; rfl) ?_
  refine pu_ 1 (some 10) HT_ rfl rfl (.inl ⟨by rfl, by intro w'; go_simp; with_reducible rfl⟩) (by simp only [Act.put, sa_, s0_, s1_, i64_w, i32_w]; rfl) ?_
  refine pu_ 2 (some 11) HT_ rfl rfl (.inl ⟨by rfl, by intro w'; go_simp; with_reducible rfl⟩) (by simp only [Act.put, sa_, s0_, s1_, i64_w, i32_w]; rfl) ?_
  refine pu_ 3 (some 12) HT_ rfl rfl (.inl ⟨by rfl, by intro w'; go_simp; with_reducible rfl⟩) (by simp only [Act.put, sa_, s0_, s1_, i64_w, i32_w]; rfl) ?_
  refine pu_ 4 (some 13) HT_ rfl rfl (.inl ⟨by rfl, by intro w'; go_simp; with_reducible rfl⟩) (by simp only [Act.put, sa_, s0_, s1_, i64_w, i32_w]; rfl) ?_
  refine pu_ 5 (some 14) HT_ rfl rfl (.inl ⟨by rfl, by intro w'; go_simp; with_reducible rfl⟩) (by simp only [Act.put, sa_, s0_, s1_, i64_w, i32_w]; rfl) ?_
  refine pu_ 6 (some 15) HT_ rfl rfl (.inl ⟨by rfl, by intro w'; go_simp; with_reducible rfl⟩) (by simp only [Act.put, sa_, s0_, s1_, i64_w, i32_w]; rfl) ?_
  refine pu_ 7 (some 16) HT_ rfl rfl (.inl ⟨by rfl, by intro w'; go_simp; with_reducible rfl⟩) (by simp only [Act.put, sa_, s0_, s1_, i64_w, i32_w]; rfl) ?_
  refine tk_ 8 (some 17) HT_ HW_ rfl rfl (.inl ⟨by rfl, by rintro w' ⟨s0, s1⟩; go_simp; with_reducible rfl⟩) hHeld (by simp only [Act.put, sa_, s0_, s1_, i64_w, i32_w]; rfl) ?_
  refine pu_ 9 (some 18) HT_ rfl rfl (.inl ⟨by rfl, by intro w'; go_simp; with_reducible rfl⟩) (by simp only [Act.put, sa_, s0_, s1_, i64_w, i32_w]; rfl) ?_
  refine pu_ 10 (some 19) HT_ rfl rfl (.inl ⟨by rfl, by intro w'; go_simp; with_reducible rfl⟩) (by simp only [Act.put, sa_, s0_, s1_, i64_w, i32_w]; rfl) ?_
  refine pu_ 11 (some 20) HT_ rfl rfl (.inl ⟨by rfl, by intro w'; go_simp; with_reducible rfl⟩) (by simp only [Act.put, sa_, s0_, s1_, i64_w, i32_w]; rfl) ?_
  refine pu_ 12 (some 21) HT_ rfl rfl (.inl ⟨by rfl, by intro w'; go_simp; with_reducible rfl⟩) (by simp only [Act.put, sa_, s0_, s1_, i64_w, i32_w]; rfl) ?_
  refine pu_ 13 (some 22) HT_ rfl rfl (.inl ⟨by rfl, by intro w'; go_simp; with_reducible rfl⟩) (by simp only [Act.put, sa_, s0_, s1_, i64_w, i32_w]; rfl) ?_
  refine tk_ 14 (some 23) HT_ HW_ rfl rfl (.inl ⟨by rfl, by rintro w' ⟨s0, s1⟩; go_simp; with_reducible rfl⟩) hHeld (by simp only [Act.put, sa_, s0_, s1_, i64_w, i32_w]; rfl) ?_
  refine pu_ 15 (some 24) HT_ rfl rfl (.inl ⟨by rfl, by intro w'; go_simp; with_reducible rfl⟩) (by simp only [Act.put, sa_, s0_, s1_, i64_w, i32_w]; rfl) ?_
  refine on_ 16 (some 25) HT_ rfl rfl (fun K hK => ?_)
  refine goes_ Try.func46 (by kernel_rfl) rfl #[.slice A0 su.length c0, .func (.func 45) #[] #[]] (by rfl) rfl rfl (by (try simp only [List.map_toArray, List.map_cons, List.map_nil]) <;> rfl) ?_
  refine (contains46_calls 45 #[] shortB A0 c0 su _ (Kd.C_below HR0.out HB.out) hc0 (Kd.C_max HR0.out) (fun _ _ => rfl) (fun x W _ => by simpa using short_calls x W)).mono ?_
  rintro e W2 ⟨rfl, hb⟩
  refine ⟨_, rfl, ?_⟩
  have n0_ := Aside0.mk (below_step HB.out hb); have n1_ := Aside0.mk (blk_same BK.out hb); clear HB BK; have HB := n0_; have BK := n1_; clear n0_ n1_ hb
  refine hK.out _ _ ⟨(blk_cell BK.out 0).trans rfl, (blk_cell BK.out 1).trans rfl⟩ (fun hHeld => ?_)
  clear hK K
  refine norm_ (by show Act.put _ (some 25) _ = _; simp only [Act.put, sa_, s0_, s1_, i64_w, i32_w]; rfl) ?_
  (try rw [b4])
  refine pu_ 17 (some 26) HT_ rfl rfl (.inl ⟨by rfl, by intro w'; go_simp; with_reducible rfl⟩) (by simp only [Act.put, sa_, s0_, s1_, i64_w, i32_w]; rfl) ?_
  refine pu_ 18 (some 27) HT_ rfl rfl (.inl ⟨by rfl, by intro w'; go_simp; with_reducible rfl⟩) (by simp only [Act.put, sa_, s0_, s1_, i64_w, i32_w]; rfl) ?_
  refine pu_ 19 (some 28) HT_ rfl rfl (.inl ⟨by rfl, by intro w'; go_simp; with_reducible rfl⟩) (by simp only [Act.put, sa_, s0_, s1_, i64_w, i32_w]; rfl) ?_
  refine pu_ 20 (some 29) HT_ rfl rfl (.inl ⟨by rfl, by intro w'; go_simp; with_reducible rfl⟩) (by simp only [Act.put, sa_, s0_, s1_, i64_w, i32_w]; rfl) ?_
  refine tk_ 21 (some 30) HT_ HW_ rfl rfl (.inl ⟨by rfl, by rintro w' ⟨s0, s1⟩; go_simp; with_reducible rfl⟩) hHeld (by simp only [Act.put, sa_, s0_, s1_, i64_w, i32_w]; rfl) ?_
  refine pu_ 22 (some 31) HT_ rfl rfl (.inl ⟨by rfl, by intro w'; go_simp; with_reducible rfl⟩) (by simp only [Act.put, sa_, s0_, s1_, i64_w, i32_w]; rfl) ?_
  refine on_ 23 (some 32) HT_ rfl rfl (fun K hK => ?_)
  refine goes_ Try.func47 (by kernel_rfl) rfl #[.slice A1 so.length c1, .func (.func 44) #[] #[]] (by rfl) rfl rfl (by (try simp only [List.map_toArray, List.map_cons, List.map_nil]) <;> rfl) ?_
  refine (contains47_calls 44 #[] syncB A1 c1 so _ (Kd.C_below HR1.out HB.out) hc1 (Kd.C_max HR1.out) (fun _ _ => rfl) (fun x W _ => by simpa using sync_calls x W)).mono ?_
  rintro e W2 ⟨rfl, hb⟩
  refine ⟨_, rfl, ?_⟩
  have n0_ := Aside0.mk (below_step HB.out hb); have n1_ := Aside0.mk (blk_same BK.out hb); clear HB BK; have HB := n0_; have BK := n1_; clear n0_ n1_ hb
  refine hK.out _ _ ⟨(blk_cell BK.out 0).trans rfl, (blk_cell BK.out 1).trans rfl⟩ (fun hHeld => ?_)
  clear hK K
  refine norm_ (by show Act.put _ (some 32) _ = _; simp only [Act.put, sa_, s0_, s1_, i64_w, i32_w]; rfl) ?_
  (try rw [b5])
  refine pu_ 24 (some 33) HT_ rfl rfl (.inl ⟨by rfl, by intro w'; go_simp; with_reducible rfl⟩) (by simp only [Act.put, sa_, s0_, s1_, i64_w, i32_w]; rfl) ?_
  refine pu_ 25 (some 34) HT_ rfl rfl (.inl ⟨by rfl, by intro w'; go_simp; with_reducible rfl⟩) (by simp only [Act.put, sa_, s0_, s1_, i64_w, i32_w]; rfl) ?_
  refine pu_ 26 (some 35) HT_ rfl rfl (.inl ⟨by rfl, by intro w'; go_simp; with_reducible rfl⟩) (by simp only [Act.put, sa_, s0_, s1_, i64_w, i32_w]; rfl) ?_
  refine pu_ 27 (some 36) HT_ rfl rfl (.inr ⟨by rfl, rfl⟩) (by simp only [Act.put, sa_, s0_, s1_, i64_w, i32_w]; rfl) ?_
  refine pu_ 28 (some 37) HT_ rfl rfl (.inr ⟨by rfl, rfl⟩) (by simp only [Act.put, sa_, s0_, s1_, i64_w, i32_w]; rfl) ?_
  refine pu_ 29 (some 38) HT_ rfl rfl (.inr ⟨by rfl, rfl⟩) (by simp only [Act.put, sa_, s0_, s1_, i64_w, i32_w]; rfl) ?_
  refine pu_ 30 (some 39) HT_ rfl rfl (.inr ⟨by rfl, rfl⟩) (by simp only [Act.put, sa_, s0_, s1_, i64_w, i32_w]; rfl) ?_
  refine pu_ 31 (some 40) HT_ rfl rfl (.inr ⟨by rfl, rfl⟩) (by simp only [Act.put, sa_, s0_, s1_, i64_w, i32_w]; rfl) ?_
  refine pu_ 32 (some 41) HT_ rfl rfl (.inr ⟨by rfl, rfl⟩) (by simp only [Act.put, sa_, s0_, s1_, i64_w, i32_w]; rfl) ?_
  refine pu_ 33 (some 42) HT_ rfl rfl (.inl ⟨by rfl, by intro w'; go_simp; with_reducible rfl⟩) (by simp only [Act.put, sa_, s0_, s1_, i64_w, i32_w]; rfl) ?_
  refine pu_ 34 (some 2) HT_ rfl rfl (.inl ⟨by rfl, by intro w'; go_simp; with_reducible rfl⟩) (by simp only [Act.put, sa_, s0_, s1_, i64_w, i32_w]; rfl) ?_
  refine done_ (done_of HT_.out (by kernel_rfl)) ?_
  go_wp2
  go_ret
  exact ⟨rfl, HB.out⟩
set_option maxHeartbeats 8000000 in
set_option maxRecDepth 100000 in
theorem disk_Right.way5 (A0 : Option Addr) (c0 : Nat) (su : List ByteArray) (A1 : Option Addr) (c1 : Nat) (so : List S24) (w : World) (hr0 : Kd.C Kd.string w A0 su.length su) (hc0 : su.length ≤ c0) (hr1 : Kd.C k24 w A1 so.length so) (hc1 : so.length ≤ c1) (h0 : decide ((su.length : Int) ≥ 1) = true) (h1 : decide ((su.length : Int) ≤ 400) = true) (h2 : decide ((so.length : Int) ≤ 3000) = true) (b4 : su.any shortB = false) (b5 : so.any syncB = false) :
    Calls Try.prog 20 #[.agg #[.slice A0 su.length c0, .slice A1 so.length c1]] w fun e w' => e = .returned (.bool (!(so.any (oddB su.length)))) ∧ Below w.heap.size w w' := by
  have hu30 := Try.underlying30
  have HR0 := Aside0.mk hr0
  have HR1 := Aside0.mk hr1
  clear hr0 hr1
  go_enter Try.func20, Try.ntmps20
  go_wp2_with fail
  generalize hU : World.alloc w _ = U
  have BK0 := Aside0.mk (show U.heap[w.heap.size]? = some (.cells #[.slice A0 su.length c0, .slice A1 so.length c1] 30 (0, 0)) by rw [← hU]; exact heap_alloc_new w _)
  have HB0 := Aside0.mk (show Below w.heap.size w U by rw [← hU]; exact below_alloc (Below.refl _ _) _)
  clear hU
  have BK := Aside0.mk (XB.bkD BK0.out)
  have HB := Aside0.mk (below_drew1 HB0.out)
  clear BK0 HB0
  refine start_ (n := 35) (S := fun w' => w'.cell? ⟨w.heap.size, 0, none⟩ = some (.slice A0 su.length c0) ∧ w'.cell? ⟨w.heap.size, 1, none⟩ = some (.slice A1 so.length c1)) (ds := []) #[false, false, false, false, false, false, false, false, false, false, false, false, false, false, false, false, false, false, false, false, false, false, false, false, false, false, false, false, false, false, false, false, false, false, false] (by kernel_rfl) rfl rfl ⟨(blk_cell BK.out 0).trans rfl, (blk_cell BK.out 1).trans rfl⟩ (fun hHeld => ?_); refine with_tabW disk_Right.tab4 disk_Right.bits4 (fun HT_ HW_ => ?_)
  generalize U.drew = V at *
  refine pu_ 0 (some 9) HT_ rfl rfl (.inl ⟨by rfl, by intro w'; go_simp; with_reducible rfl⟩) (by simp only [Act.put, sa_, s0_, s1_, i64_w, i32_w]; rfl) ?_
  refine pu_ 1 (some 10) HT_ rfl rfl (.inl ⟨by rfl, by intro w'; go_simp; with_reducible rfl⟩) (by simp only [Act.put, sa_, s0_, s1_, i64_w, i32_w]; rfl) ?_
  refine pu_ 2 (some 11) HT_ rfl rfl (.inl ⟨by rfl, by intro w'; go_simp; with_reducible rfl⟩) (by simp only [Act.put, sa_, s0_, s1_, i64_w, i32_w]; rfl) ?_
  refine pu_ 3 (some 12) HT_ rfl rfl (.inl ⟨by rfl, by intro w'; go_simp; with_reducible rfl⟩) (by simp only [Act.put, sa_, s0_, s1_, i64_w, i32_w]; rfl) ?_
  refine pu_ 4 (some 13) HT_ rfl rfl (.inl ⟨by rfl, by intro w'; go_simp; with_reducible rfl⟩) (by simp only [Act.put, sa_, s0_, s1_, i64_w, i32_w]; rfl) ?_
  refine pu_ 5 (some 14) HT_ rfl rfl (.inl ⟨by rfl, by intro w'; go_simp; with_reducible rfl⟩) (by simp only [Act.put, sa_, s0_, s1_, i64_w, i32_w]; rfl) ?_
  refine pu_ 6 (some 15) HT_ rfl rfl (.inl ⟨by rfl, by intro w'; go_simp; with_reducible rfl⟩) (by simp only [Act.put, sa_, s0_, s1_, i64_w, i32_w]; rfl) ?_
  refine pu_ 7 (some 16) HT_ rfl rfl (.inl ⟨by rfl, by intro w'; go_simp; with_reducible rfl⟩) (by simp only [Act.put, sa_, s0_, s1_, i64_w, i32_w]; rfl) ?_
  refine tk_ 8 (some 17) HT_ HW_ rfl rfl (.inl ⟨by rfl, by rintro w' ⟨s0, s1⟩; go_simp; with_reducible rfl⟩) hHeld (by simp only [Act.put, sa_, s0_, s1_, i64_w, i32_w]; rfl) ?_
  refine pu_ 9 (some 18) HT_ rfl rfl (.inl ⟨by rfl, by intro w'; go_simp; with_reducible rfl⟩) (by simp only [Act.put, sa_, s0_, s1_, i64_w, i32_w]; rfl) ?_
  refine pu_ 10 (some 19) HT_ rfl rfl (.inl ⟨by rfl, by intro w'; go_simp; with_reducible rfl⟩) (by simp only [Act.put, sa_, s0_, s1_, i64_w, i32_w]; rfl) ?_
  refine pu_ 11 (some 20) HT_ rfl rfl (.inl ⟨by rfl, by intro w'; go_simp; with_reducible rfl⟩) (by simp only [Act.put, sa_, s0_, s1_, i64_w, i32_w]; rfl) ?_
  refine pu_ 12 (some 21) HT_ rfl rfl (.inl ⟨by rfl, by intro w'; go_simp; with_reducible rfl⟩) (by simp only [Act.put, sa_, s0_, s1_, i64_w, i32_w]; rfl) ?_
  refine pu_ 13 (some 22) HT_ rfl rfl (.inl ⟨by rfl, by intro w'; go_simp; with_reducible rfl⟩) (by simp only [Act.put, sa_, s0_, s1_, i64_w, i32_w]; rfl) ?_
  refine tk_ 14 (some 23) HT_ HW_ rfl rfl (.inl ⟨by rfl, by rintro w' ⟨s0, s1⟩; go_simp; with_reducible rfl⟩) hHeld (by simp only [Act.put, sa_, s0_, s1_, i64_w, i32_w]; rfl) ?_
  refine pu_ 15 (some 24) HT_ rfl rfl (.inl ⟨by rfl, by intro w'; go_simp; with_reducible rfl⟩) (by simp only [Act.put, sa_, s0_, s1_, i64_w, i32_w]; rfl) ?_
  refine on_ 16 (some 25) HT_ rfl rfl (fun K hK => ?_)
  refine goes_ Try.func46 (by kernel_rfl) rfl #[.slice A0 su.length c0, .func (.func 45) #[] #[]] (by rfl) rfl rfl (by (try simp only [List.map_toArray, List.map_cons, List.map_nil]) <;> rfl) ?_
  refine (contains46_calls 45 #[] shortB A0 c0 su _ (Kd.C_below HR0.out HB.out) hc0 (Kd.C_max HR0.out) (fun _ _ => rfl) (fun x W _ => by simpa using short_calls x W)).mono ?_
  rintro e W2 ⟨rfl, hb⟩
  refine ⟨_, rfl, ?_⟩
  have n0_ := Aside0.mk (below_step HB.out hb); have n1_ := Aside0.mk (blk_same BK.out hb); clear HB BK; have HB := n0_; have BK := n1_; clear n0_ n1_ hb
  refine hK.out _ _ ⟨(blk_cell BK.out 0).trans rfl, (blk_cell BK.out 1).trans rfl⟩ (fun hHeld => ?_)
  clear hK K
  refine norm_ (by show Act.put _ (some 25) _ = _; simp only [Act.put, sa_, s0_, s1_, i64_w, i32_w]; rfl) ?_
  (try rw [b4])
  refine pu_ 17 (some 26) HT_ rfl rfl (.inl ⟨by rfl, by intro w'; go_simp; with_reducible rfl⟩) (by simp only [Act.put, sa_, s0_, s1_, i64_w, i32_w]; rfl) ?_
  refine pu_ 18 (some 27) HT_ rfl rfl (.inl ⟨by rfl, by intro w'; go_simp; with_reducible rfl⟩) (by simp only [Act.put, sa_, s0_, s1_, i64_w, i32_w]; rfl) ?_
  refine pu_ 19 (some 28) HT_ rfl rfl (.inl ⟨by rfl, by intro w'; go_simp; with_reducible rfl⟩) (by simp only [Act.put, sa_, s0_, s1_, i64_w, i32_w]; rfl) ?_
  refine pu_ 20 (some 29) HT_ rfl rfl (.inl ⟨by rfl, by intro w'; go_simp; with_reducible rfl⟩) (by simp only [Act.put, sa_, s0_, s1_, i64_w, i32_w]; rfl) ?_
  refine tk_ 21 (some 30) HT_ HW_ rfl rfl (.inl ⟨by rfl, by rintro w' ⟨s0, s1⟩; go_simp; with_reducible rfl⟩) hHeld (by simp only [Act.put, sa_, s0_, s1_, i64_w, i32_w]; rfl) ?_
  refine pu_ 22 (some 31) HT_ rfl rfl (.inl ⟨by rfl, by intro w'; go_simp; with_reducible rfl⟩) (by simp only [Act.put, sa_, s0_, s1_, i64_w, i32_w]; rfl) ?_
  refine on_ 23 (some 32) HT_ rfl rfl (fun K hK => ?_)
  refine goes_ Try.func47 (by kernel_rfl) rfl #[.slice A1 so.length c1, .func (.func 44) #[] #[]] (by rfl) rfl rfl (by (try simp only [List.map_toArray, List.map_cons, List.map_nil]) <;> rfl) ?_
  refine (contains47_calls 44 #[] syncB A1 c1 so _ (Kd.C_below HR1.out HB.out) hc1 (Kd.C_max HR1.out) (fun _ _ => rfl) (fun x W _ => by simpa using sync_calls x W)).mono ?_
  rintro e W2 ⟨rfl, hb⟩
  refine ⟨_, rfl, ?_⟩
  have n0_ := Aside0.mk (below_step HB.out hb); have n1_ := Aside0.mk (blk_same BK.out hb); clear HB BK; have HB := n0_; have BK := n1_; clear n0_ n1_ hb
  refine hK.out _ _ ⟨(blk_cell BK.out 0).trans rfl, (blk_cell BK.out 1).trans rfl⟩ (fun hHeld => ?_)
  clear hK K
  refine norm_ (by show Act.put _ (some 32) _ = _; simp only [Act.put, sa_, s0_, s1_, i64_w, i32_w]; rfl) ?_
  (try rw [b5])
  refine pu_ 24 (some 33) HT_ rfl rfl (.inl ⟨by rfl, by intro w'; go_simp; with_reducible rfl⟩) (by simp only [Act.put, sa_, s0_, s1_, i64_w, i32_w]; rfl) ?_
  refine pu_ 25 (some 34) HT_ rfl rfl (.inl ⟨by rfl, by intro w'; go_simp; with_reducible rfl⟩) (by simp only [Act.put, sa_, s0_, s1_, i64_w, i32_w]; rfl) ?_
  refine pu_ 26 (some 35) HT_ rfl rfl (.inl ⟨by rfl, by intro w'; go_simp; with_reducible rfl⟩) (by simp only [Act.put, sa_, s0_, s1_, i64_w, i32_w]; rfl) ?_
  refine pu_ 27 (some 36) HT_ rfl rfl (.inl ⟨by rfl, by intro w'; go_simp; with_reducible rfl⟩) (by simp only [Act.put, sa_, s0_, s1_, i64_w, i32_w]; rfl) ?_
  refine tk_ 28 (some 37) HT_ HW_ rfl rfl (.inl ⟨by rfl, by rintro w' ⟨s0, s1⟩; go_simp; with_reducible rfl⟩) hHeld (by simp only [Act.put, sa_, s0_, s1_, i64_w, i32_w]; rfl) ?_
  refine pu_ 29 (some 38) HT_ rfl rfl (.inl ⟨by rfl, by intro w'; go_simp; with_reducible rfl⟩) (by simp only [Act.put, sa_, s0_, s1_, i64_w, i32_w]; rfl) ?_
  refine on_ 30 (some 39) HT_ rfl rfl (fun K hK => ?_)
  refine goes_ Try.func48 (by kernel_rfl) rfl #[.int .i64 su.length] (by rfl) rfl rfl (by (try simp only [List.map_toArray, List.map_cons, List.map_nil]) <;> rfl) ?_
  refine (oddF_calls su.length _).mono ?_
  rintro e W2 ⟨rfl, hW2⟩
  rename_i Wq
  have hb := (show Below Wq.heap.size Wq W2 by rw [hW2]; exact below_alloc (Below.refl _ _) _)
  have hg := (show W2.heap[Wq.heap.size]? = some (.cells #[.int .i64 su.length] 3 (0, 0)) by rw [hW2]; exact heap_alloc_new _ _)
  refine ⟨_, rfl, ?_⟩
  have n0_ := Aside0.mk (below_step HB.out hb); have n1_ := Aside0.mk (blk_same BK.out hb); clear HB BK; have HB := n0_; have BK := n1_; clear n0_ n1_ hb
  have HG := Aside0.mk hg; clear hg hW2; generalize Wq.heap.size = g48 at *
  refine hK.out _ _ ⟨(blk_cell BK.out 0).trans rfl, (blk_cell BK.out 1).trans rfl⟩ (fun hHeld => ?_)
  clear hK K
  refine norm_ (by show Act.put _ (some 39) _ = _; simp only [Act.put, sa_, s0_, s1_, i64_w, i32_w]; rfl) ?_
  refine on_ 31 (some 40) HT_ rfl rfl (fun K hK => ?_)
  refine goes_ Try.func47 (by kernel_rfl) rfl #[.slice A1 so.length c1, .func (.func 73) #[] #[.pointer (some ⟨g48, 0, none⟩)]] (by rfl) rfl rfl (by (try simp only [List.map_toArray, List.map_cons, List.map_nil]) <;> rfl) ?_
  refine (contains47_calls 73 #[.pointer (some ⟨g48, 0, none⟩)] (oddB su.length) A1 c1 so _ (Kd.C_below HR1.out HB.out) hc1 (Kd.C_max HR1.out) (fun _ _ => rfl) (fun x W hW => odd_calls x su.length g48 _ W HG.out hW)).mono ?_
  rintro e W2 ⟨rfl, hb⟩
  refine ⟨_, rfl, ?_⟩
  have n0_ := Aside0.mk (below_step HB.out hb); have n1_ := Aside0.mk (blk_same BK.out hb); clear HB BK; have HB := n0_; have BK := n1_; clear n0_ n1_ hb
  refine hK.out _ _ ⟨(blk_cell BK.out 0).trans rfl, (blk_cell BK.out 1).trans rfl⟩ (fun hHeld => ?_)
  clear hK K
  refine norm_ (by show Act.put _ (some 40) _ = _; simp only [Act.put, sa_, s0_, s1_, i64_w, i32_w]; rfl) ?_
  refine pu_ 32 (some 41) HT_ rfl rfl (.inl ⟨by rfl, by intro w'; go_simp; with_reducible rfl⟩) (by simp only [Act.put, sa_, s0_, s1_, i64_w, i32_w]; rfl) ?_
  refine pu_ 33 (some 42) HT_ rfl rfl (.inl ⟨by rfl, by intro w'; go_simp; with_reducible rfl⟩) (by simp only [Act.put, sa_, s0_, s1_, i64_w, i32_w]; rfl) ?_
  refine pu_ 34 (some 2) HT_ rfl rfl (.inl ⟨by rfl, by intro w'; go_simp; with_reducible rfl⟩) (by simp only [Act.put, sa_, s0_, s1_, i64_w, i32_w]; rfl) ?_
  refine done_ (done_of HT_.out (by kernel_rfl)) ?_
  go_wp2
  go_ret
  exact ⟨rfl, HB.out⟩
def disk_Right.f (l0_0 : List ByteArray) (l0_1 : List (S24)) : Option (Bool) := some (rightB l0_0 l0_1)
theorem disk_Right.calls (A0_0 : Option Addr) (c0_0 : Nat) (l0_0 : List ByteArray) (A0_1 : Option Addr) (c0_1 : Nat) (l0_1 : List (S24)) (r : Bool) (w : World) (hr0_0 : Kd.C Kd.string w A0_0 l0_0.length l0_0) (hc0_0 : l0_0.length ≤ c0_0) (hr0_1 : Kd.C k24 w A0_1 l0_1.length l0_1) (hc0_1 : l0_1.length ≤ c0_1) (h : disk_Right.f l0_0 l0_1 = some r) :
    Calls Try.prog 20 #[.agg #[.slice A0_0 l0_0.length c0_0, .slice A0_1 l0_1.length c0_1]] w fun e w' => e = .returned (.bool r) ∧ Below w.heap.size w w' := by
  obtain rfl := Option.some.inj h
  unfold rightB
  cases h0 : decide ((l0_0.length : Int) ≥ 1)
  · exact disk_Right.way0 _ _ _ _ _ _ w hr0_0 hc0_0 hr0_1 hc0_1 h0
  cases h1 : decide ((l0_0.length : Int) ≤ 400)
  · exact disk_Right.way1 _ _ _ _ _ _ w hr0_0 hc0_0 hr0_1 hc0_1 h0 h1
  cases h2 : decide ((l0_1.length : Int) ≤ 3000)
  · exact disk_Right.way2 _ _ _ _ _ _ w hr0_0 hc0_0 hr0_1 hc0_1 h0 h1 h2
  cases b4 : l0_0.any shortB
  · cases b5 : l0_1.any syncB
    · exact disk_Right.way5 _ _ _ _ _ _ w hr0_0 hc0_0 hr0_1 hc0_1 h0 h1 h2 b4 b5
    · exact disk_Right.way4 _ _ _ _ _ _ w hr0_0 hc0_0 hr0_1 hc0_1 h0 h1 h2 b4 b5
  · exact disk_Right.way3 _ _ _ _ _ _ w hr0_0 hc0_0 hr0_1 hc0_1 h0 h1 h2 b4
end Go.Proofs.Ytcfinlmocgbnbaa.Pr
end
section
namespace Go.Proofs.Ytcfinlmocgbnbaa.Pr
open Go.Proofs.Ytcfinlmocgbnbaa.Sq Go.RowKit Go.Proofs.YtcfinlmocgbnbaaW.PrintWords Go.Proofs.YtcfinlmocgbnbaaW.PrintLast Go.Proofs.YtcfinlmocgbnbaaW.PrintMore
attribute [local go_sem] max2_int min2_int max_two min_two max_three min_three max_four min_four
set_option linter.unusedVariables false
set_option linter.unusedSimpArgs false
def vault_may.f (l0_0 : List ByteArray) (l0_1 : List (S24)) : Option (Bool) := (disk_Right.f l0_0 l0_1).bind fun tz2 => (if tz2 = true then (some (decide ((l0_0.length : Int) ≥ 4))) else (some false))
set_option maxHeartbeats 8000000 in
set_option maxRecDepth 100000 in
theorem vault_may.calls (A0_0 : Option Addr) (c0_0 : Nat) (l0_0 : List ByteArray) (A0_1 : Option Addr) (c0_1 : Nat) (l0_1 : List (S24)) (r : Bool) (w : World) (hr0_0 : Kd.C Kd.string w A0_0 l0_0.length l0_0) (hc0_0 : l0_0.length ≤ c0_0) (hr0_1 : Kd.C k24 w A0_1 l0_1.length l0_1) (hc0_1 : l0_1.length ≤ c0_1) (h : vault_may.f l0_0 l0_1 = some r) :
  Calls Try.prog 54 #[.agg #[.slice A0_0 l0_0.length c0_0, .slice A0_1 l0_1.length c0_1]] w fun e w' => e = .returned (.bool r) ∧ Below w.heap.size w w' := by
 have hu30 := Try.underlying30
 have HR0_0 := am hr0_0
 have HC0_0 := am hc0_0
 clear hr0_0 hc0_0
 have HR0_1 := am hr0_1
 have HC0_1 := am hc0_1
 clear hr0_1 hc0_1
 have HB := am (Below.refl w.heap.size w)
 have H : ((disk_Right.f l0_0 l0_1).bind fun tz2 => (if tz2 = true then (some (decide ((l0_0.length : Int) ≥ 4))) else (some false))) = some r := h
 clear h
 replace H := ob_ H
 obtain ⟨tz2, A20, H⟩ := H
 replace H : (if tz2 = true then (some (decide ((l0_0.length : Int) ≥ 4))) else (some false)) = some r := H
 have A2 := Aside0.mk A20
 clear A20
 by_cases c3 : tz2 = true
 rotate_left
 ·replace c3 := Bool.eq_false_iff.mpr c3
  subst c3
  have H1 : (some false) = some r := by rw [if_neg (show ¬ (false = true) by decide)] at H; exact H
  clear H
  have H := H1
  clear H1
  obtain rfl := Option.some.inj H
  go_enter Try.func54, Try.ntmps54
  go_wp2_with (first | ((with_reducible refine gate_dst (N := 1) rfl ?_); (try (refine gate_guard (by rfl) ?_; dsimp only)); refine box_event ?hg (N := 1) ?hd (cs := #[.slice A0_0 l0_0.length c0_0, .slice A0_1 l0_1.length c0_1]) (t := 30) ?hr ?_; (case hd => rfl); (case hg => rfl); (case hr => first | (go_simp; done) | (go_simp; rfl)); intro gbz1 hg w8 hbox hb; have n0_ := am (below_step (pb HB) hb); have n1_ := am (hbox); have n2_ := ge_ hg (pb HB); have n3_ := ge_ hg (pb HB); clear HB; have HB := n0_; have BKz1 := n1_; have GWz1 := n2_; have GEz1 := n3_; clear n0_ n1_ n2_ n3_; clear hb hbox hg; obtain ⟨hcz9_0, hcz9_1⟩ := bc2 BKz1; obtain ⟨hfz9_0, hfz9_1⟩ := bf2 BKz1) | ((with_reducible refine gate_callee (f := 20) rfl ?_); refine goesL_ (some 4) rfl rfl Try.func20 (by kernel_rfl) rfl #[.agg #[.slice A0_0 l0_0.length c0_0, .slice A0_1 l0_1.length c0_1]] rfl (by (try simp only [List.map_toArray, List.map_cons, List.map_nil]) <;> rfl) ?_; (with_reducible refine (disk_Right.calls _ _ l0_0 _ _ l0_1 false _ ?side1 ?side2 ?side3 ?side4 A2.out).mono ?_); (case side1 => repeat (first | exact (Kd.C_below HR0_0.out HB.out) | (with_reducible refine Kd.C_alloc ?_ _) | (with_reducible refine Kd.C_drewN ?_ _) | (with_reducible refine Kd.C_drew ?_))); (case side2 => exact HC0_0.out); (case side3 => repeat (first | exact (Kd.C_below HR0_1.out HB.out) | (with_reducible refine Kd.C_alloc ?_ _) | (with_reducible refine Kd.C_drewN ?_ _) | (with_reducible refine Kd.C_drew ?_))); (case side4 => exact HC0_1.out); rintro e w10 ⟨rfl, hb⟩; refine ⟨_, rfl, ?_⟩; have n0_ := am (bkB (pk BKz1) hb); have n1_ := am (below_step (by repeat first | (with_reducible first | exact HB.out | apply ba | apply bn | apply bd | refine bs (by assumption) ?_) | exact HB.out) hb); clear BKz1; clear HB; have BKz1 := n0_; have HB := n1_; clear n0_ n1_; (try clear hi)))
  go_ret
  exact ⟨by first | rfl | (simp <;> rfl) | (simp [*] <;> rfl), by repeat first | (with_reducible first | exact HB.out | apply ba | apply bn | apply bd | refine bs (by assumption) ?_) | exact HB.out⟩
 subst c3
 have H1 : (some (decide ((l0_0.length : Int) ≥ 4))) = some r := by rw [if_pos rfl] at H; exact H
 clear H
 have H := H1
 clear H1
 obtain rfl := Option.some.inj H
 go_enter Try.func54, Try.ntmps54
 go_wp2_with (first | ((with_reducible refine gate_dst (N := 1) rfl ?_); (try (refine gate_guard (by rfl) ?_; dsimp only)); refine box_event ?hg (N := 1) ?hd (cs := #[.slice A0_0 l0_0.length c0_0, .slice A0_1 l0_1.length c0_1]) (t := 30) ?hr ?_; (case hd => rfl); (case hg => rfl); (case hr => first | (go_simp; done) | (go_simp; rfl)); intro gbz1 hg w4 hbox hb; have n0_ := am (below_step (pb HB) hb); have n1_ := am (hbox); have n2_ := ge_ hg (pb HB); have n3_ := ge_ hg (pb HB); clear HB; have HB := n0_; have BKz1 := n1_; have GWz1 := n2_; have GEz1 := n3_; clear n0_ n1_ n2_ n3_; clear hb hbox hg; obtain ⟨hcz5_0, hcz5_1⟩ := bc2 BKz1; obtain ⟨hfz5_0, hfz5_1⟩ := bf2 BKz1) | ((with_reducible refine gate_callee (f := 20) rfl ?_); refine goesL_ (some 4) rfl rfl Try.func20 (by kernel_rfl) rfl #[.agg #[.slice A0_0 l0_0.length c0_0, .slice A0_1 l0_1.length c0_1]] rfl (by (try simp only [List.map_toArray, List.map_cons, List.map_nil]) <;> rfl) ?_; (with_reducible refine (disk_Right.calls _ _ l0_0 _ _ l0_1 true _ ?side1 ?side2 ?side3 ?side4 A2.out).mono ?_); (case side1 => repeat (first | exact (Kd.C_below HR0_0.out HB.out) | (with_reducible refine Kd.C_alloc ?_ _) | (with_reducible refine Kd.C_drewN ?_ _) | (with_reducible refine Kd.C_drew ?_))); (case side2 => exact HC0_0.out); (case side3 => repeat (first | exact (Kd.C_below HR0_1.out HB.out) | (with_reducible refine Kd.C_alloc ?_ _) | (with_reducible refine Kd.C_drewN ?_ _) | (with_reducible refine Kd.C_drew ?_))); (case side4 => exact HC0_1.out); rintro e w6 ⟨rfl, hb⟩; refine ⟨_, rfl, ?_⟩; have n0_ := am (bkB (pk BKz1) hb); have n1_ := am (below_step (by repeat first | (with_reducible first | exact HB.out | apply ba | apply bn | apply bd | refine bs (by assumption) ?_) | exact HB.out) hb); clear BKz1; clear HB; have BKz1 := n0_; have HB := n1_; clear n0_ n1_; obtain ⟨hcz7_0, hcz7_1⟩ := bc2 BKz1; obtain ⟨hfz7_0, hfz7_1⟩ := bf2 BKz1))
 go_ret
 exact ⟨by first | rfl | (simp <;> rfl) | (simp [*] <;> rfl), by repeat first | (with_reducible first | exact HB.out | apply ba | apply bn | apply bd | refine bs (by assumption) ?_) | exact HB.out⟩
end Go.Proofs.Ytcfinlmocgbnbaa.Pr
end
section
namespace Go.Proofs.Ytcfinlmocgbnbaa.Pr
open Go.RowKit Go.Proofs.YtcfinlmocgbnbaaW.PrintWords Go.Proofs.YtcfinlmocgbnbaaW.PrintLast Go.Proofs.YtcfinlmocgbnbaaW.PrintMore
set_option linter.unusedVariables false
set_option linter.unusedSimpArgs false
def slices_Clone_string_string.f (l0 : List ByteArray) : Option (List ByteArray) := if l0.length < 8796093022208 then some l0 else none
set_option maxHeartbeats 8000000 in
set_option maxRecDepth 100000 in
theorem slices_Clone_string_string.calls (A0 : Option Addr) (c0 : Nat) (l0 : List ByteArray) (r : List ByteArray) (w : World) (hr0 : Kd.C Kd.string w A0 l0.length l0) (hc0 : l0.length ≤ c0) (h : slices_Clone_string_string.f l0 = some r) :
    Calls Try.prog 76 #[.slice A0 l0.length c0] w fun e w' => ∃ v0_ : Value, e = .returned (v0_) ∧ Kd.R Kd.string 9 w' w.heap.size (fun _ => True) v0_ r ∧ Below w.heap.size w w' := by
  have q24 : ∀ (w : World) (a : Option Addr) (n c : Nat), (binOp .eql 27 (.slice a n c) (.slice none 0 0)).run Try.prog w = .ok (.bool a.isNone) w := fun w a n c => Lib.run_eql_slice_nil w _ _ a n c 0 0 Try.underlying27
  unfold slices_Clone_string_string.f at h
  by_cases hl : l0.length < 8796093022208
  · rw [if_pos hl] at h
    obtain rfl := Option.some.inj h
    have HR0 := Aside0.mk hr0
    have LM := Aside0.mk hl
    clear h hl hr0 hc0
    cases A0 with
    | none =>
      have h0 : l0 = [] := by
        cases l0 with
        | nil => rfl
        | cons x xs =>
          obtain ⟨ad, e, _⟩ := HR0.out.2.2 (by simp)
          cases e
      clear HR0
      subst h0
      go_enter Try.func76, Try.ntmps76
      go_wp2
      go_ret
      exact ⟨_, rfl, Kd.R_nil _ _ _ _ _, Below.refl _ _⟩
    | some ad =>
      have HB := Aside0.mk (Below.refl w.heap.size w)
      go_enter Try.func76, Try.ntmps76
      go_wp2_with (first | ((with_reducible refine gate_dst (N := 5) rfl ?_); refine Kd.R_lit Kd.string _ 9 ?hg (N := 5) ?hd (xs := ([] : List ByteArray)) (inner := []) (ok := fun _ => True) (okp := fun _ => True) ?hr ?hp (fun _ hk => hk) trivial (Below.refl _ _) (Nat.le_refl _) (by simp) ?_; (case hd => rfl); (case hg => rfl); (case hr => first | (go_simp; done) | (go_simp; rfl)); (case hp => exact Reps.none _ _); intro v126 w34 ho35 hb hg_ hnew_; clear hg_ hnew_; have n1_ := Aside0.mk (Kd.C_below HR0.out hb); have n0_ := Aside0.mk hb; have n2_ := Aside0.mk ho35; clear HB HR0; have HB := n0_; have HR0 := n1_; have HO := n2_; clear n0_ n1_ n2_ hb ho35) | ((with_reducible refine gate_builtin (b := .append) (xs := #[.tmp 5, .tmp 6]) rfl ?_); at_builtin; refine Kd.R_append_rows Kd.string (w0 := w) w.heap.size rfl (.tmp 5) (.tmp 6) 27 9 (.string ⟨#[]⟩) 16 rfl Try.underlying27 info9 rfl (by decide) (by omega) v126 ([] : List ByteArray) l0 _ _ _ (fun _ => True) (fun _ => False) rfl rfl ?aO ?aR (fun _ _ h => h) (fun _ h => h.elim) ?aF ?aB ?aS ?aL ?_; (case aO => exact HO.out); (case aR => exact HR0.out); (case aF => exact fun _ _ => trivial); (case aB => exact HB.out); (case aS => exact HB.out.size); (case aL => have := LM.out; simp only [List.length_nil]; omega); intro v7 w7 ho7 hb7 hg7 hn7; clear hg7 hn7; rw [List.nil_append] at ho7; have HO2 := Aside0.mk ho7; have HB2 := Aside0.mk hb7; clear ho7 hb7))
      go_ret
      exact ⟨_, rfl, HO2.out, HB2.out⟩
  · rw [if_neg hl] at h
    cases h
def api_Move_77.f (l0 : List S24) : Option (List S24) := if l0.length < 4398046511104 then some l0 else none
set_option maxHeartbeats 8000000 in
set_option maxRecDepth 100000 in
theorem api_Move_77.calls (A0 : Option Addr) (c0 : Nat) (l0 : List S24) (r : List S24) (w : World) (hr0 : Kd.C k24 w A0 l0.length l0) (hc0 : l0.length ≤ c0) (h : api_Move_77.f l0 = some r) :
    Calls Try.prog 77 #[.slice A0 l0.length c0] w fun e w' => ∃ v0_ : Value, e = .returned (v0_) ∧ Kd.R k24 24 w' w.heap.size (fun _ => True) v0_ r ∧ Below w.heap.size w w' := by
  have q24 : ∀ (w : World) (a : Option Addr) (n c : Nat), (binOp .eql 28 (.slice a n c) (.slice none 0 0)).run Try.prog w = .ok (.bool a.isNone) w := fun w a n c => Lib.run_eql_slice_nil w _ _ a n c 0 0 Try.underlying28
  unfold api_Move_77.f at h
  by_cases hl : l0.length < 4398046511104
  · rw [if_pos hl] at h
    obtain rfl := Option.some.inj h
    have HR0 := Aside0.mk hr0
    have LM := Aside0.mk hl
    clear h hl hr0 hc0
    cases A0 with
    | none =>
      have h0 : l0 = [] := by
        cases l0 with
        | nil => rfl
        | cons x xs =>
          obtain ⟨ad, e, _⟩ := HR0.out.2.2 (by simp)
          cases e
      clear HR0
      subst h0
      go_enter Try.func77, Try.ntmps77
      go_wp2
      go_ret
      exact ⟨_, rfl, Kd.R_nil _ _ _ _ _, Below.refl _ _⟩
    | some ad =>
      have HB := Aside0.mk (Below.refl w.heap.size w)
      go_enter Try.func77, Try.ntmps77
      go_wp2_with (first | ((with_reducible refine gate_dst (N := 5) rfl ?_); refine Kd.R_lit k24 _ 24 ?hg (N := 5) ?hd (xs := ([] : List S24)) (inner := []) (ok := fun _ => True) (okp := fun _ => True) ?hr ?hp (fun _ hk => hk) trivial (Below.refl _ _) (Nat.le_refl _) (by simp) ?_; (case hd => rfl); (case hg => rfl); (case hr => first | (go_simp; done) | (go_simp; rfl)); (case hp => exact Reps.none _ _); intro v126 w34 ho35 hb hg_ hnew_; clear hg_ hnew_; have n1_ := Aside0.mk (Kd.C_below HR0.out hb); have n0_ := Aside0.mk hb; have n2_ := Aside0.mk ho35; clear HB HR0; have HB := n0_; have HR0 := n1_; have HO := n2_; clear n0_ n1_ n2_ hb ho35) | ((with_reducible refine gate_builtin (b := .append) (xs := #[.tmp 5, .tmp 6]) rfl ?_); at_builtin; refine Kd.R_append_rows k24 (w0 := w) w.heap.size rfl (.tmp 5) (.tmp 6) 28 24 (.agg #[(.bool false), (.int .i64 0), (.string ⟨#[]⟩)]) 32 rfl Try.underlying28 info24 rfl (by decide) (by omega) v126 ([] : List S24) l0 _ _ _ (fun _ => True) (fun _ => False) rfl rfl ?aO ?aR (fun _ _ h => h) (fun _ h => h.elim) ?aF ?aB ?aS ?aL ?_; (case aO => exact HO.out); (case aR => exact HR0.out); (case aF => exact fun _ _ => trivial); (case aB => exact HB.out); (case aS => exact HB.out.size); (case aL => have := LM.out; simp only [List.length_nil]; omega); intro v7 w7 ho7 hb7 hg7 hn7; clear hg7 hn7; rw [List.nil_append] at ho7; have HO2 := Aside0.mk ho7; have HB2 := Aside0.mk hb7; clear ho7 hb7))
      go_ret
      exact ⟨_, rfl, HO2.out, HB2.out⟩
  · rw [if_neg hl] at h
    cases h
end Go.Proofs.Ytcfinlmocgbnbaa.Pr
end
section
namespace Go.Proofs.Ytcfinlmocgbnbaa.Pr
open Go.Proofs.Ytcfinlmocgbnbaa.Sq Go.RowKit Go.Proofs.YtcfinlmocgbnbaaW.PrintWords Go.Proofs.YtcfinlmocgbnbaaW.PrintLast Go.Proofs.YtcfinlmocgbnbaaW.PrintMore
attribute [local go_sem] max2_int min2_int max_two min_two max_three min_three max_four min_four
set_option linter.unusedVariables false
set_option linter.unusedSimpArgs false
def vault_own.f (l0_0 : List ByteArray) (l0_1 : List (S24)) : Option (List ByteArray × (List (S24))) := (slices_Clone_string_string.f l0_0).bind fun tz3 => ((api_Move_77.f l0_1).bind fun tz6 => (some (tz3, tz6)))
def vault_own.T1 : Bool × List (List Nat × List Nat) := (true, [([], []), ([0], [0]), ([1], [1]), ([], []), ([3], [3]), ([4, 2], [4]), ([2, 5], [2, 5]), ([6, 5, 0, 1, 2, 3, 4, 5, 6], [6])])
def vault_own.B1 : List Nat := [0, 1, 3, 0, 8, 31, 63, 127]
theorem vault_own.tab1 : rtab .any (opsOf Try.f55 1) = vault_own.T1 := by kernel_rfl
theorem vault_own.bits1 : waitsOk vault_own.T1.2 vault_own.B1 = true := by kernel_rfl
set_option maxHeartbeats 8000000 in
set_option maxRecDepth 100000 in
theorem vault_own.calls (A0_0 : Option Addr) (c0_0 : Nat) (l0_0 : List ByteArray) (A0_1 : Option Addr) (c0_1 : Nat) (l0_1 : List (S24)) (r1 : List ByteArray) (r2 : List (S24)) (w : World) (hr0_0 : Kd.C Kd.string w A0_0 l0_0.length l0_0) (hc0_0 : l0_0.length ≤ c0_0) (hr0_1 : Kd.C k24 w A0_1 l0_1.length l0_1) (hc0_1 : l0_1.length ≤ c0_1) (h : vault_own.f l0_0 l0_1 = some (r1, r2)) :
  Calls Try.prog 55 #[.agg #[.slice A0_0 l0_0.length c0_0, .slice A0_1 l0_1.length c0_1]] w fun e w' => ∃ v0_ v1_ : Value, e = .returned (.agg #[v0_, v1_]) ∧ Kd.R Kd.string 9 w' w.heap.size (fun _ => True) v0_ r1 ∧ Kd.R k24 24 w' w.heap.size (fun _ => True) v1_ r2 ∧ Below w.heap.size w w' := by
 have hu30 := Try.underlying30
 have HR0_0 := am hr0_0
 have HC0_0 := am hc0_0
 clear hr0_0 hc0_0
 have HR0_1 := am hr0_1
 have HC0_1 := am hc0_1
 clear hr0_1 hc0_1
 have HB := am (Below.refl w.heap.size w)
 have H : ((slices_Clone_string_string.f l0_0).bind fun tz3 => ((api_Move_77.f l0_1).bind fun tz6 => (some (tz3, tz6)))) = some (r1, r2) := h
 clear h
 replace H := ob_ H
 obtain ⟨tz3, A20, H⟩ := H
 replace H : ((api_Move_77.f l0_1).bind fun tz6 => (some (tz3, tz6))) = some (r1, r2) := H
 have A2 := Aside0.mk A20
 clear A20
 replace H := ob_ H
 obtain ⟨tz6, A30, H⟩ := H
 replace H : (some (tz3, tz6)) = some (r1, r2) := H
 have A3 := Aside0.mk A30
 clear A30
 simp only [Option.some.injEq, Prod.mk.injEq] at H
 obtain ⟨rfl, rfl⟩ := H
 go_enter Try.func55, Try.ntmps55
 try go_wp2_with (first | ((with_reducible refine gate_dst (N := 1) rfl ?_); refine box_event ?hg (N := 1) ?hd (cs := #[.slice A0_0 l0_0.length c0_0, .slice A0_1 l0_1.length c0_1]) (t := 30) ?hr ?_; (case hd => rfl); (case hg => rfl); (case hr => first | (go_simp; done) | (go_simp; rfl)); intro gbz1 hg w4 hbox hb; have n0_ := am (below_step (pb HB) hb); have n1_ := am (hbox); have n2_ := ge_ hg (pb HB); have n3_ := ge_ hg (pb HB); clear HB; have HB := n0_; have BKz1 := n1_; have GWz1 := n2_; have GEz1 := n3_; clear n0_ n1_ n2_ n3_; clear hb hbox hg) | ((with_reducible refine gate_dst (N := 2) rfl ?_); refine box_event ?hg (N := 2) ?hd (cs := #[.slice none 0 0, .slice none 0 0]) (t := 30) ?hr ?_; (case hd => rfl); (case hg => rfl); (case hr => first | (go_simp; done) | (go_simp; rfl)); intro gbz2 hg w5 hbox hb; have n0_ := am (bkB (pk BKz1) hb); have n1_ := am (below_step (by repeat first | (with_reducible first | exact HB.out | apply ba | apply bn | apply bd | refine bs (by assumption) ?_) | exact HB.out) hb); have n2_ := am (hbox); have n3_ := ge_ hg (by repeat first | (with_reducible first | exact HB.out | apply ba | apply bn | apply bd | refine bs (by assumption) ?_) | exact HB.out); have n4_ := ge_ hg (by repeat first | (with_reducible first | exact HB.out | apply ba | apply bn | apply bd | refine bs (by assumption) ?_) | exact HB.out); have n5_ := nl_ hg BKz1; have n6_ := ng_ hg BKz1; clear BKz1; clear HB; have BKz1 := n0_; have HB := n1_; have BKz2 := n2_; have GWz2 := n3_; have GEz2 := n4_; have NBz1_z2 := n5_; have NBz2_z1 := n6_; clear n0_ n1_ n2_ n3_ n4_ n5_ n6_; clear hb hbox hg))
 have n0_ := am (bkD BKz1.out)
 have n1_ := am (bkD BKz2.out)
 have n2_ := am (below_drew1 HB.out)
 clear BKz1 BKz2 HB; have BKz1 := n0_; have BKz2 := n1_; have HB := n2_; clear n0_ n1_ n2_
 refine start_ (n := 8) (S := fun w' => w'.cell? ⟨gbz1, 0, none⟩ = some (.slice A0_0 l0_0.length c0_0) ∧ w'.cell? ⟨gbz1, 1, none⟩ = some (.slice A0_1 l0_1.length c0_1)) (ds := []) #[false, false, false, false, false, false, false, false] (by kernel_rfl) rfl rfl (bc2 BKz1) (fun hHeld => ?_); refine with_tabW vault_own.tab1 vault_own.bits1 (fun HT_ HW_ => ?_)
 generalize w5.drew = w6 at BKz1 BKz2 HB hHeld ⊢
 refine pu_ 0 (some 3) HT_ rfl rfl (.inl ⟨by rfl, by intro w'; go_simp; with_reducible rfl⟩) (by simp only [Act.put, sa_, s0_, s1_, i64_w, i32_w]; rfl) ?_
 refine pu_ 3 (some 6) HT_ rfl rfl (.inl ⟨by rfl, by intro w'; go_simp; with_reducible rfl⟩) (by simp only [Act.put, sa_, s0_, s1_, i64_w, i32_w]; rfl) ?_
 refine tk_ 1 (some 4) HT_ HW_ rfl rfl (.inl ⟨by rfl, by rintro w' ⟨s0, s1⟩; go_simp; with_reducible rfl⟩) hHeld (by simp only [Act.put, sa_, s0_, s1_, i64_w, i32_w]; rfl) ?_
 refine tk_ 4 (some 7) HT_ HW_ rfl rfl (.inl ⟨by rfl, by rintro w' ⟨s0, s1⟩; go_simp; with_reducible rfl⟩) hHeld (by simp only [Act.put, sa_, s0_, s1_, i64_w, i32_w]; rfl) ?_
 refine on_ 2 (some 5) HT_ rfl rfl (fun K hK => ?_)
 refine goes_ Try.func76 (by kernel_rfl) rfl #[.slice A0_0 l0_0.length c0_0] (by rfl) rfl rfl (by (try simp only [List.map_toArray, List.map_cons, List.map_nil]) <;> rfl) ?_
 with_reducible refine (slices_Clone_string_string.calls _ _ l0_0 tz3 _ ?side1 ?side2 A2.out).mono ?_
 (case side1 => repeat (first | exact (Kd.C_below HR0_0.out HB.out) | (with_reducible refine Kd.C_alloc ?_ _) | (with_reducible refine Kd.C_drewN ?_ _) | (with_reducible refine Kd.C_drew ?_)))
 (case side2 => exact HC0_0.out)
 rintro e w7 ⟨vz4, rfl, ho0, hb⟩
 refine ⟨_, rfl, ?_⟩
 have n0_ := am (Kd.R_lower ho0 (below_size (by repeat first | (with_reducible first | exact HB.out | apply ba | apply bn | apply bd | refine bs (by assumption) ?_) | exact HB.out)))
 have n1_ := am (bkB (pk BKz1) hb)
 have n2_ := am (bkB (pk BKz2) hb)
 have n3_ := am (below_step (by repeat first | (with_reducible first | exact HB.out | apply ba | apply bn | apply bd | refine bs (by assumption) ?_) | exact HB.out) hb)
 clear BKz1 BKz2 HB; have HOz5 := n0_; have BKz1 := n1_; have BKz2 := n2_; have HB := n3_; clear n0_ n1_ n2_ n3_; refine hK.out _ _ (bc2 BKz1) (fun hHeld => ?_)
 clear hK K
 refine norm_ (by show Act.put _ (some 5) _ = _; simp only [Act.put, sa_, s0_, s1_, i64_w, i32_w]; rfl) ?_
 refine on_ 5 (some 8) HT_ rfl rfl (fun K hK => ?_)
 refine goes_ Try.func77 (by kernel_rfl) rfl #[.slice A0_1 l0_1.length c0_1] (by rfl) rfl rfl (by (try simp only [List.map_toArray, List.map_cons, List.map_nil]) <;> rfl) ?_
 with_reducible refine (api_Move_77.calls _ _ l0_1 tz6 _ ?side1 ?side2 A3.out).mono ?_
 (case side1 => repeat (first | exact (Kd.C_below HR0_1.out HB.out) | (with_reducible refine Kd.C_alloc ?_ _) | (with_reducible refine Kd.C_drewN ?_ _) | (with_reducible refine Kd.C_drew ?_)))
 (case side2 => exact HC0_1.out)
 rintro e w8 ⟨vz7, rfl, ho0, hb⟩
 refine ⟨_, rfl, ?_⟩
 have n0_ := am (Kd.R_below (pr HOz5) hb)
 have n1_ := am (Kd.R_lower ho0 (below_size (by repeat first | (with_reducible first | exact HB.out | apply ba | apply bn | apply bd | refine bs (by assumption) ?_) | exact HB.out)))
 have n2_ := am (bkB (pk BKz1) hb)
 have n3_ := am (bkB (pk BKz2) hb)
 have n4_ := am (below_step (by repeat first | (with_reducible first | exact HB.out | apply ba | apply bn | apply bd | refine bs (by assumption) ?_) | exact HB.out) hb)
 clear HOz5 BKz1 BKz2 HB; have HOz5 := n0_; have HOz8 := n1_; have BKz1 := n2_; have BKz2 := n3_; have HB := n4_; clear n0_ n1_ n2_ n3_ n4_; obtain ⟨Ao9, co9, eo9⟩ := Kd.R_slice HOz8.out
 (first | subst eo9 | (injection eo9 with f1_ f2_ f3_; have f4_ := f1_.symm; have f5_ := f3_.symm; clear f1_ f2_ f3_; subst f4_; subst f5_))
 obtain ⟨Ao10, co10, eo10⟩ := Kd.R_slice HOz5.out
 (first | subst eo10 | (injection eo10 with f1_ f2_ f3_; have f4_ := f1_.symm; have f5_ := f3_.symm; clear f1_ f2_ f3_; subst f4_; subst f5_))
 refine hK.out _ _ (bc2 BKz1) (fun hHeld => ?_)
 clear hK K
 refine norm_ (by show Act.put _ (some 8) _ = _; simp only [Act.put, sa_, s0_, s1_, i64_w, i32_w]; rfl) ?_
 refine pu_ 6 (some 9) HT_ rfl rfl (.inl ⟨by rfl, by intro w'; go_simp; with_reducible rfl⟩) (by simp only [Act.put, sa_, s0_, s1_, i64_w, i32_w]; rfl) ?_
 refine on_ 7 none HT_ rfl rfl (fun K hK => ?_)
 have hs11 : w8.cell? ⟨gbz2, 0, none⟩ = some (.slice none 0 0) := (blk_cell BKz2.out 0).trans rfl
 have hfs11 := blk_frozen BKz2.out 0
 have := NBz1_z2.out
 have := NBz2_z1.out
 have hs12 : w8.cell? ⟨gbz2, 1, none⟩ = some (.slice none 0 0) := (blk_cell BKz2.out 1).trans rfl
 have hfs12 := blk_frozen BKz2.out 1
 have := NBz1_z2.out
 have := NBz2_z1.out
 refine skip_ (by rfl) rfl (by go_simp; rfl) ?_
 refine hK.out _ _ ⟨((cell_far (p := ⟨gbz2, _, none⟩) NBz1_z2.out _).trans (((cell_far (p := ⟨gbz2, _, none⟩) NBz1_z2.out _).trans (hHeld.1)))), ((cell_far (p := ⟨gbz2, _, none⟩) NBz1_z2.out _).trans (((cell_far (p := ⟨gbz2, _, none⟩) NBz1_z2.out _).trans (hHeld.2))))⟩ (fun hHeld => ?_)
 clear hK K
 refine done_ (done_of HT_.out (by kernel_rfl)) ?_
 try go_wp2
 refine bodyPost_ret (results_cell_row rfl _ _ gbz2 30 #[.slice Ao10 tz3.length co10, .slice Ao9 tz6.length co9] (0, 0) _ rfl (by (with_reducible repeat (first | refine blk_drewN ?_ _ | refine bkD ?_ | refine bkA ?_ _)); apply bp2; exact pk BKz2) Try.underlying30 rfl (by kernel_rfl)) rfl ?_
 exact ⟨_, _, by first | rfl | (simp <;> rfl) | (simp [*] <;> rfl), by (with_reducible repeat first | apply ra | apply rn | apply rd); exact Kd.R_mono (rf2 (Kd.R_types HOz5.out BKz2.out (by decide)) (fun _ hk => hk.2)) (fun _ hk => trivial), by (with_reducible repeat first | apply ra | apply rn | apply rd); exact Kd.R_mono (rf2 (Kd.R_types HOz8.out BKz2.out (by decide)) (fun _ hk => hk.2)) (fun _ hk => trivial), by repeat first | (with_reducible first | exact HB.out | apply ba | apply bn | apply bd | refine bs (by assumption) ?_) | exact HB.out⟩
end Go.Proofs.Ytcfinlmocgbnbaa.Pr
end
section
set_option linter.unusedVariables false
namespace Go.Proofs.Ytcfinlmocgbnbaa.XB
open Go.RowKit
section
variable {P : Program} {ops : Array Oper} {md : Region.Mode} {C : World → Prop}
def HeadQ (P : Program) (md : Region.Mode) (ops : Array Oper) (C : World → Prop) (n : Nat) (L : Array Bool → Act → Prop) : Nat → Array Bool → Act → Prop
  | 0, up, a => L up a
  | f + 1, up, a => Region.ready md ops up ≠ [] ∧ ∀ i ∈ Region.ready md ops up, i < n ∧ qOp P ops C i (HeadQ P md ops C n L f (up.setIfInBounds i true)) a
theorem HeadQ.any {n g : Nat} {L : Array Bool → Act → Prop} {Q : Exit → Act → World → Prop} (hL : ∀ up a w, C w → L up a → wpAny P md ops Q g up a w) :
    ∀ (f : Nat) (up : Array Bool) (a : Act) (w : World), C w → HeadQ P md ops C n L f up a → wpAny P md ops Q (f + g) up a w
  | 0, up, a, w, hC, h => by rw [Nat.zero_add]; exact hL _ _ _ hC h
  | f + 1, up, a, w, hC, h => by
    rw [show f + 1 + g = (f + g) + 1 by omega]
    exact ⟨fun h0 => absurd h0 h.1, fun i hi => wpOp_of_qOp hC (fun a' w' hC' h' => HeadQ.any hL f _ a' w' hC' h') (h.2 i hi).2⟩
theorem HeadQ.first {n i : Nat} {oi : Oper} {v : Value} {L : Array Bool → Act → Prop} (hi : ops[i]? = some oi) (hsel : ∀ (j : Nat) (o : Oper) cs b, ops[j]? = some o → o.op ≠ .select cs b)
    (hs : Region.sinkB md ops n = true) (hc : Region.chainB md ops n = true) (hn : n < ops.size) (hin : i < n) (hdone : ∀ up a, L up a → ∀ j ∈ Region.ready md ops up, n ≤ j) :
    ∀ (f : Nat) (up : Array Bool) (a : Act), HeadInv md ops n up →
      (∀ j oj, ops[j]? = some oj → j ≠ i → up.getD j true = false → (∀ e ∈ oj.after, Region.binds md e = true → e.on ≠ i) → oi.apart ops oj = true) →
      i ∈ Region.ready md ops up → YieldsIn P ops C oi v a → HeadQ P md ops C n L f (up.setIfInBounds i true) (a.put oi.dst v) → HeadQ P md ops C n L (f + 1) up a := by
  intro f
  induction f with
  | zero =>
    intro up a inv _ hr hy H
    refine ⟨List.ne_nil_of_mem hr, fun j hj => ?_⟩
    have hjn : j < n := Nat.lt_of_not_le fun h => tail_waits hs hc hn inv _ i rfl hin (mem_ready.1 hr).1 j h hj
    refine ⟨hjn, ?_⟩
    by_cases hji : j = i
    · subst hji; exact hy.qOp hi H
    · exact absurd (hdone _ _ H j (ready_mono hj hji)) (by omega)
  | succ f ih =>
    intro up a inv hfree hr hy H
    refine ⟨List.ne_nil_of_mem hr, fun j hj => ?_⟩
    have hjn : j < n := Nat.lt_of_not_le fun h => tail_waits hs hc hn inv _ i rfl hin (mem_ready.1 hr).1 j h hj
    refine ⟨hjn, ?_⟩
    by_cases hji : j = i
    · subst hji; exact hy.qOp hi H
    · obtain ⟨hjun, oj, hoj, hall⟩ := mem_ready.1 hj
      have hun := (mem_ready.1 hr).1
      have hnot : ∀ e ∈ oj.after, Region.binds md e = true → e.on ≠ i := fun e he hb heq => by
        have h1 := hall e he hb
        rw [heq, getD_both hun] at h1
        cases h1
      have h2 := qOp_put hoj (hfree j oj hoj hji hjun hnot) (fun cs b => hsel i oi cs b hi) (fun cs b => hsel j oj cs b hoj) hy (H.2 j (ready_mono hj hji)).2
      refine qOp_mono (fun a' h3 => ih (up.setIfInBounds j true) a' (inv.set hj hjn) (fun k ok hk hki hun' hno => ?_) (ready_mono hr (Ne.symm hji)) h3.1 ?_) h2
      · refine hfree k ok hk hki ?_ hno
        by_cases hjk : j = k
        · subst hjk; exact hjun
        · rw [getD_set_ne true hjk] at hun'; exact hun'
      · rw [Array.setIfInBounds_comm _ _ hji]; exact h3.2
theorem HeadQ.lex {n g : Nat} {Lq : Act → Prop} (hsel : Region.noSelect ops = true) (hs : Region.sinkB md ops n = true) (hc : Region.chainB md ops n = true) (hn : n < ops.size) :
    ∀ (l : List Oper) (k : Nat) (up : Array Bool) (a : Act), (∀ j, j < l.length → l[j]? = ops[k + j]?) → k + l.length = n → HeadInv md ops n up → Region.lexHead md ops g l.length k up = true → wpQuiet P ops C Lq l a →
      HeadQ P md ops C n (fun up' a' => Region.seqB md ops g n up' = true ∧ Lq a') l.length up a
  | [], k, up, a, _, hk, _, hB, h => by
    obtain rfl : k = n := by simpa using hk
    exact ⟨by simpa [Region.lexHead] using hB, h⟩
  | o :: l, k, up, a, hl, hk, inv, hB, h => by
    have h0 : ops[k]? = some o := by simpa using (hl 0 (by simp)).symm
    simp only [List.length_cons, Region.lexHead, Bool.and_eq_true] at hB
    obtain ⟨⟨hr, hf⟩, hB'⟩ := hB
    have hkn : k < n := by simp only [List.length_cons] at hk; omega
    have hr' : k ∈ Region.ready md ops up := by simpa using hr
    have hst : qOp P ops C k (wpQuiet P ops C Lq l) a := by unfold qOp; simp only [h0]; exact h
    obtain ⟨v, hy, hK⟩ := yieldsIn_of_qOp h0 hst
    exact HeadQ.first h0 (Region.noSelect_spec hsel) hs hc hn hkn (fun up' a' hL => seqB_ready hL.1) l.length up a inv (Region.free_spec h0 hf) hr' hy
      (HeadQ.lex hsel hs hc hn l (k + 1) _ _ (fun j hj => by have := hl (j + 1) (by simp; omega); simpa [Nat.add_assoc, Nat.add_comm 1 j] using this) (by simp only [List.length_cons] at hk; omega) (inv.set hr' hkn) hB' hK)
theorem region_tail {id : Nat} {Q : Exit → Act → World → Prop} {a : Act} {w : World} {l : List Oper} (C : World → Prop) (n : Nat) (hm : P.follows .mixedOrders = true) (hB : Region.lexTailB .any l.toArray n = true) (hC : C w.drew)
    (h : wpQuiet P l.toArray C (fun a' => ∀ w', C w' → wpList P l.toArray Q (l.drop n) a' w') (l.take n) a) : (Code.region id l.toArray true).wp P Q a w := by
  simp only [Region.lexTailB, Bool.and_eq_true, decide_eq_true_eq] at hB
  obtain ⟨⟨⟨⟨hsel, hn⟩, hs⟩, hc⟩, hlex⟩ := hB
  have htl : (l.take n).length = n := by simp at hn ⊢; omega
  have hdl : (l.drop n).length = l.toArray.size - n := by simp
  have inv0 : HeadInv .any l.toArray n (Array.replicate l.toArray.size false) :=
    ⟨by simp, fun j oj _ hl => (by rw [getD_replicate_false] at hl; cases hl), fun t _ ht => getD_in (by simpa using ht) (getD_replicate_false _ _)⟩
  have H := HeadQ.lex (md := .any) (g := l.toArray.size - n) hsel hs hc hn (l.take n) 0 _ a (fun j hj => by
    have hj' : j < n := by rw [htl] at hj; exact hj
    simp [hj']) (by simpa using htl) inv0 (by rw [htl]; exact hlex) h
  refine wp_region_any hm ?_
  have := HeadQ.any (C := C) (Q := Q) (g := l.toArray.size - n) (fun up a' w' hC' hL => by
    have := wpAny_of_seq (md := .any) (Q' := Q) (l.drop n) n up a' w' (fun j => by simp [List.getElem?_drop]) (by rw [hdl]; exact hL.1) (hL.2 w' hC')
    rwa [hdl] at this) _ _ _ w.drew hC H
  rw [htl, show n + (l.toArray.size - n) = l.toArray.size by omega] at this
  exact this
theorem region_all {id : Nat} {Q : Exit → Act → World → Prop} {a : Act} {w : World} {l : List Oper} (C : World → Prop) (hm : P.follows .mixedOrders = true) (hB : Region.lexB .any l.toArray = true) (hC : C w.drew)
    (h : wpQuiet P l.toArray C (fun a' => ∀ w', C w' → Q .normal a' w') l a) : (Code.region id l.toArray true).wp P Q a w :=
  wp_region_quiet (C := C) hm hB hC (by simpa using h)
end
theorem quiet_op {P : Program} {ops : Array Oper} {C : World → Prop} {Q : Act → Prop} {a : Act} {o : Oper} {rest : List Oper} (v : Value) (hw : Region.wanted o (yielded ops a.tmps) = true)
    (hv : ∀ w, C w → o.quietAt P a C w v) (h : wpQuiet P ops C Q rest (a.put o.dst v)) : wpQuiet P ops C Q (o :: rest) a := by
  show if _ then _ else _
  rw [if_pos hw]
  exact ⟨v, hv, h⟩
structure In (S : World → Prop) where
  w : World
  h : S w
theorem in_of {P : Program} {f : FuncId} {args : Array Value} {v : Value} {S : World → Prop} (hS : ∀ X Y, S X → Below X.heap.size X Y → S Y) {p : In S}
    (h : Calls P f args p.w fun e w' => e = .returned v ∧ Below p.w.heap.size p.w w') : Calls P f args p.w fun e w'' => e = .returned v ∧ ∃ q : In S, w'' = q.w :=
  h.mono fun _ w' ⟨he, hb⟩ => ⟨he, ⟨w', hS _ _ p.h hb⟩, rfl⟩
theorem in_belowB {P : Program} {f : FuncId} {args : Array Value} {v : Value} {W : World} {p : In (Below W.heap.size W)}
    (h : Calls P f args p.w fun e w' => e = .returned v ∧ Below p.w.heap.size p.w w') : Calls P f args p.w fun e w'' => e = .returned v ∧ ∃ q : In (Below W.heap.size W), w'' = q.w :=
  in_of (fun _ _ hX hb => hX.trans (hb.mono hX.size)) h
section
variable {P : Program} {ops : Array Oper} {md : Region.Mode} {C : World → Prop} {l n : Nat}
def noDefer (ops : Array Oper) : Bool := ops.all fun o => match o.op with | .defer _ => false | _ => true
theorem noDefer_spec {i : Nat} {o : Oper} (h : noDefer ops = true) (ho : ops[i]? = some o) : ∀ c, o.op ≠ .defer c := by
  intro c hc
  obtain ⟨hi, rfl⟩ := Array.getElem?_eq_some_iff.1 ho
  have h2 := Array.all_eq_true.1 h i hi
  rw [hc] at h2
  cases h2
theorem Oper.round_of_quiet {o : Oper} {a : Act} {K : Act → Prop} {K' : Act → World → Prop} {Q : Exit → Act → World → Prop} {w : World} (hd : ∀ c, o.op ≠ .defer c) (hw : C w) (h : ∀ a w', C w' → K a → K' a w') (hh : o.quiet P a C K) :
    o.wpIn (Fence.wide.inRound l) n P a w K' Q := by
  obtain ⟨v, h1, h2⟩ := hh
  have h3 := h1 w hw
  refine ⟨fun _ _ => trivial, ?_⟩
  show o.uponIn (Fence.wide.inRound l) n P a K' Q ((o.semAt (some l) a.eval).run P w)
  rw [Oper.semAt_some l _ _ hd]
  unfold Oper.quietAt at h3
  generalize (execOp a.eval o).run P w = r at *
  cases r with
  | ok m w' =>
    cases m <;> simp only [Oper.quietUpon] at h3
    case value u =>
      obtain ⟨e1, e2⟩ := h3
      rw [e1, e2]
      exact h _ _ hw h2
    case skip =>
      obtain ⟨e1, e2⟩ := h3
      subst e2
      rw [e1]
      exact h _ _ hw h2
    case enter f args =>
      obtain ⟨e1, hc⟩ := h3
      rw [e1]
      refine ⟨fun hx => (by cases hx), CallsIn.inRound l (callsIn_wide.2 (hc.mono fun e w'' ⟨he, hw''⟩ => ?_))⟩
      subst he
      exact h _ _ hw'' h2
  | halt x w' => simp only [Oper.quietUpon] at h3
theorem round_of_qOp {i : Nat} {a : Act} {K : Act → Prop} {K' : Act → World → Prop} {Q : Exit → Act → World → Prop} {w : World} (hn : noDefer ops = true) (hC : C w) (h : ∀ a w', C w' → K a → K' a w') (hh : qOp P ops C i K a) :
    wpOpIn (Fence.wide.inRound l) n P ops Q i K' a w := by
  unfold qOp at hh
  unfold wpOpIn
  split
  · rename_i ho; simp only [ho] at hh; exact h _ _ hC hh
  · rename_i o ho
    simp only [ho] at hh
    split
    · rename_i hw; simp only [hw, if_true] at hh; exact Oper.round_of_quiet (noDefer_spec hn ho) hC h hh
    · rename_i hw; simp only [hw] at hh; exact ⟨fun _ _ => trivial, h _ _ hC hh⟩
theorem HeadQ.round {m g : Nat} {L : Array Bool → Act → Prop} {Q : Exit → Act → World → Prop} (hn : noDefer ops = true) (hL : ∀ up a w, C w → L up a → wpAnyIn (Fence.wide.inRound l) n P md ops Q g up a w) :
    ∀ (f : Nat) (up : Array Bool) (a : Act) (w : World), C w → HeadQ P md ops C m L f up a → wpAnyIn (Fence.wide.inRound l) n P md ops Q (f + g) up a w
  | 0, up, a, w, hC, h => by rw [Nat.zero_add]; exact hL _ _ _ hC h
  | f + 1, up, a, w, hC, h => by
    rw [show f + 1 + g = (f + g) + 1 by omega]
    exact ⟨fun h0 => absurd h0 h.1, fun i hi => round_of_qOp hn hC (fun a' w' hC' h' => HeadQ.round hn hL f _ a' w' hC' h') (h.2 i hi).2⟩
theorem any_of_seq {Q : Exit → Act → World → Prop} {F : Fence} : ∀ (t : List Oper) (k : Nat) (up : Array Bool) (a : Act) (w : World), (∀ j, t[j]? = ops[k + j]?) →
    Region.seqB md ops t.length k up = true → wpListIn F n P ops Q t a w → wpAnyIn F n P md ops Q t.length up a w
  | [], k, up, a, w, _, hB, h => ⟨by simpa [Region.seqB] using hB, h⟩
  | o :: t, k, up, a, w, hl, hB, h => by
    have h0 : ops[k]? = some o := by simpa using (hl 0).symm
    simp only [List.length_cons, Region.seqB, Bool.and_eq_true, decide_eq_true_eq] at hB
    refine ⟨fun h1 => (by rw [hB.1] at h1; cases h1), fun i hi => ?_⟩
    rw [hB.1] at hi
    obtain rfl : i = k := by simpa using hi
    have hw : wpOpIn F n P ops Q i (wpListIn F n P ops Q t) a w := by unfold wpOpIn; simp only [h0]; exact h
    exact wpOpIn_mono (fun a' w' h' => any_of_seq t (i + 1) _ a' w' (fun j => by have := hl (j + 1); simpa [Nat.add_assoc, Nat.add_comm 1 j] using this) hB.2 h') hw
theorem round_of_quiet {Qa : Act → Prop} {Q : Exit → Act → World → Prop} (hn : noDefer ops = true) (hQ : ∀ a w, C w → Qa a → Q .normal a w) : ∀ (fuel : Nat) (up : Array Bool) (a : Act) (w : World), C w →
    wpAnyQ P md ops C Qa fuel up a → wpAnyIn (Fence.wide.inRound l) n P md ops Q fuel up a w
  | 0, _, _, _, hw, h => ⟨h.1, hQ _ _ hw h.2⟩
  | fuel + 1, _, _, _, hw, h => ⟨fun h0 => hQ _ _ hw (h.1 h0), fun i hi => round_of_qOp hn hw (fun a' w' hw' => round_of_quiet hn hQ fuel _ a' w' hw') (h.2 i hi)⟩
end
end Go.Proofs.Ytcfinlmocgbnbaa.XB
end
section
set_option linter.unusedVariables false
namespace Go.Proofs.Ytcfinlmocgbnbaa.XB
open Go.RowKit Go.Shelf Go.Proofs.YtcfinlmocgbnbaaW.PrintWords
attribute [local go_sem] Oper.semAt_some
variable {F : Fence} {n : Nat} {P : Program}
theorem assign_two (l r1 r2 d1 d2 p1 p2 t1 t2 : Nat) (pos1 pos2 : String) (v1 v2 : Value) (tmps : Array Value) (W : World) (K : Act → World → Prop) (hp1 : p1 < tmps.size) (hp2 : p2 < tmps.size) (h12 : p1 ≠ p2) (hd : d1 ≠ p2)
    (hK : K { tmps := (((tmps.setIfInBounds p1 v1).setIfInBounds p2 v2).setIfInBounds d1 v1).setIfInBounds d2 v2, defers := [] } W) :
    ((Code.region r1 #[{ dst := some d1, op := Op.assign (Operand.tmp p1), type := t1, pos := pos1, after := #[], guard := none }] false).seq (Code.region r2 #[{ dst := some d2, op := Op.assign (Operand.tmp p2), type := t2, pos := pos2, after := #[], guard := none }] false)).wpIn (F.inRound l) n P (Exit.then K (fun _ _ _ => False)) { tmps := (#[p1, p2].zip #[v1, v2]).foldl (fun t (p, v) => t.setIfInBounds p v) tmps, defers := [] } W := by
  have e : (#[p1, p2].zip #[v1, v2]).foldl (fun t (p, v) => t.setIfInBounds p v) tmps = (tmps.setIfInBounds p1 v1).setIfInBounds p2 v2 := by
    have hz : #[p1, p2].zip #[v1, v2] = #[(p1, v1), (p2, v2)] := by rw [← Array.toList_inj, Array.toList_zip]; rfl
    rw [hz]; simp
  rw [e]
  have hv : (((tmps.setIfInBounds p1 v1).setIfInBounds p2 v2).getD p1 undef) = v1 := by
    simp [h12.symm, hp1]
  have hv2 : ((((tmps.setIfInBounds p1 v1).setIfInBounds p2 v2).setIfInBounds d1 v1).getD p2 undef) = v2 := by
    simp [hd, hp2]
  generalize (tmps.setIfInBounds p1 v1).setIfInBounds p2 v2 = T at *
  have hv' : (T[p1]?).getD undef = v1 := by simpa using hv
  have hv2' : ((T.setIfInBounds d1 v1)[p2]?).getD undef = v2 := by simpa using hv2
  gi_wp2
  exact hK
theorem wp_range2 {g : Operand} {p1 p2 d1 d2 r1 r2 ty1 ty2 : Nat} {pos1 pos2 : String} {body : Code} {Q : Exit → Act → World → Prop} {tmps : Array Value} {w : World}
    (hn : 1 ≤ n) {gf : Nat} {lb : Array Value} (hg : ({ tmps := tmps, defers := [] } : Act).eval g = .func (.func gf) #[] lb) (eg : ∀ args w, (callFunc gf args).run P w = .ok (.enter gf args) w)
    (v1 v2 : Nat → Value) (N : Nat) {Start : World → Prop} {Tch Kp : World → World → Prop} (hseq : IterSeq Fence.wide (n - 1) P gf lb (fun k => #[v1 k, v2 k]) N Start Tch Kp)
    (hStart : OwnW w.heap.size Start) (hs0 : Start w) (hT : ∀ A B, Tch A B → KeepsFrom w.heap.size A B)
    (hKt : ∀ {A B C : World}, Kp A B → Kp B C → Kp A C) (hKb : ∀ (W : World) (l : Nat) (o o' : Obj), w.heap.size ≤ l → W.heap[l]? = some o → o.isCells = false → Kp W (W.putObj l o')) (hp1 : p1 < tmps.size) (hp2 : p2 < tmps.size) (h12 : p1 ≠ p2) (hd : d1 ≠ p2)
    (I : Nat → World → Prop) (Ix : Code → Nat → World → Prop) (hI : ∀ k, OwnW w.heap.size (I k)) (hIx : ∀ c k, OwnW w.heap.size (Ix c k))
    (hIT : ∀ k A B, I k A → Tch A B → I k B) (hIxT : ∀ c k A B, Ix c k A → Tch A B → Ix c k B) (h0 : I 0 w)
    (hbody : ∀ (l k : Nat) (W : World), I k W → k < N → body.wpIn (Fence.wide.inRound l) (n - 1 - 1) P (seqPost w.heap.size Kp I Ix (k + 1) W) { tmps := (((tmps.setIfInBounds p1 (v1 k)).setIfInBounds p2 (v2 k)).setIfInBounds d1 (v1 k)).setIfInBounds d2 (v2 k), defers := [] } W)
    (hdone : ∀ (D : Nat) (W : World), w.heap.size ≤ D → I N W → W.heap[D]? = some (.deferred (some [])) → Q .normal { tmps := tmps, defers := [{ target := .collected D, args := #[] }] } W)
    (hstop : ∀ (D : Nat) (c : Code) (k : Nat) (W : World), w.heap.size ≤ D → k ≤ N → Ix c k W → W.heap[D]? = some (.deferred (some [])) → c.wp P Q { tmps := tmps, defers := [{ target := .collected D, args := #[] }] } W) :
    (Code.rangeFunc g #[p1, p2] ((Code.region r1 #[{ dst := some d1, op := Op.assign (Operand.tmp p1), type := ty1, pos := pos1, after := #[], guard := none }] false).seq (Code.region r2 #[{ dst := some d2, op := Op.assign (Operand.tmp p2), type := ty2, pos := pos2, after := #[], guard := none }] false)) body).wp P Q { tmps := tmps, defers := [] } w :=
  wpIn_wide.1 (wpIn_rangeFunc_seq (n := n) rfl hn hg trivial eg hseq hStart hs0 hT hKt hKb (fun _ => rfl) I Ix hI hIx hIT hIxT h0
    (fun k => { tmps := (((tmps.setIfInBounds p1 (v1 k)).setIfInBounds p2 (v2 k)).setIfInBounds d1 (v1 k)).setIfInBounds d2 (v2 k), defers := [] })
    (fun l k W K hK => assign_two l r1 r2 d1 d2 p1 p2 ty1 ty2 pos1 pos2 (v1 k) (v2 k) tmps W K hp1 hp2 h12 hd hK) hbody hdone (fun D c k W h1 h2 h3 h4 => wpIn_wide.2 (hstop D c k W h1 h2 h3 h4)))
end Go.Proofs.Ytcfinlmocgbnbaa.XB
end
section
namespace Go.Proofs.Ytcfinlmocgbnbaa.Pr
open Go.RowKit Go.Shelf Go.Proofs.Ytcfinlmocgbnbaa.XB Go.Proofs.YtcfinlmocgbnbaaW.PrintWords
attribute [local go_sem] Oper.semAt_some
set_option linter.unusedVariables false
set_option linter.unusedSimpArgs false
structure Fits (su : List ByteArray) (so : List S24) : Prop where
  blk : ∀ m ∈ so, 0 ≤ m.f1 ∧ m.f1 < su.length
  byt : ∀ m ∈ so, m.f2.size = 64
  sur : ∀ s ∈ su, s.size = 64
theorem rdS_size {su : List ByteArray} (h : ∀ s ∈ su, s.size = 64) {b : Int} (h0 : 0 ≤ b) (h1 : b < su.length) : (rdOf ByteArray.empty su b).size = 64 := by
  obtain ⟨k, rfl⟩ : ∃ k : Nat, b = k := ⟨b.toNat, by omega⟩
  rw [rdS_get (by omega)]
  exact h _ (List.getElem_mem _)
theorem put1_len (su : List ByteArray) (m : S24) (n : Int) : (put1 su m n).length = su.length := by simp [put1]
theorem put1_sur {su : List ByteArray} {m : S24} {n : Int} (h : ∀ s ∈ su, s.size = 64) (hb : 0 ≤ m.f1 ∧ m.f1 < su.length) (hm : m.f2.size = 64) (h0 : 0 ≤ n) (h1 : n ≤ 64) : ∀ s ∈ put1 su m n, s.size = 64 := by
  intro s hs
  unfold put1 at hs
  rcases List.mem_or_eq_of_mem_set hs with hs | rfl
  · exact h s hs
  · rw [ByteArray.size_append, ByteArray.size_extract, ByteArray.size_extract, rdS_size h hb.1 hb.2, hm]
    omega
theorem fall_len : ∀ (so : List S24) (su : List ByteArray) (cut : Nat → Int) (i : Nat), (fall su so cut i).length = su.length
  | [], su, cut, i => rfl
  | m :: so, su, cut, i => by rw [fall, fall_len so, put1_len]
theorem fall_snoc : ∀ (so : List S24) (su : List ByteArray) (m : S24) (cut : Nat → Int) (i : Nat), fall su (so ++ [m]) cut i = put1 (fall su so cut i) m (cut (i + so.length))
  | [], su, m, cut, i => rfl
  | x :: so, su, m, cut, i => by
    show fall (put1 su x (cut i)) (so ++ [m]) cut (i + 1) = put1 (fall (put1 su x (cut i)) so cut (i + 1)) m _
    rw [fall_snoc so, show i + 1 + so.length = i + (x :: so).length by simp only [List.length_cons]; omega]
theorem fall_sur : ∀ (so : List S24) (su : List ByteArray) (cut : Nat → Int) (i : Nat), Fits su so → (∀ j, 0 ≤ cut j ∧ cut j ≤ 64) → ∀ s ∈ fall su so cut i, s.size = 64
  | [], su, cut, i, h, _ => h.sur
  | m :: so, su, cut, i, h, hc => by
    have hb := h.blk m (by simp)
    refine fall_sur so _ cut (i + 1) ⟨fun x hx => ?_, fun x hx => h.byt x (by simp [hx]), put1_sur h.sur hb (h.byt m (by simp)) (hc i).1 (hc i).2⟩ hc
    rw [put1_len]
    exact h.blk x (by simp [hx])
def upto (su : List ByteArray) (so : List S24) (cut : Nat → Int) (i : Nat) : List ByteArray := fall su (so.take i) cut 0
theorem upto_next {su : List ByteArray} {so : List S24} {cut : Nat → Int} {i : Nat} (h : i < so.length) : upto su so cut (i + 1) = put1 (upto su so cut i) (rd_T24 so i) (cut i) := by
  unfold upto
  rw [List.take_add_one, List.getElem?_eq_getElem h, rd24_get h]
  show fall su (so.take i ++ [so[i]]) cut 0 = _
  rw [fall_snoc]
  congr 2
  simp only [List.length_take]
  omega
set_option maxRecDepth 100000 in
set_option maxHeartbeats 4000000 in
theorem settle_calls (pf : Nat) (lb : Array Value) (cut : Nat → Int) (A0 : Option Addr) (c0 : Nat) (su : List ByteArray) (A1 : Option Addr) (c1 : Nat) (so : List S24) (w : World)
    (hr0 : Kd.C Kd.string w A0 su.length su) (hc0 : su.length ≤ c0) (hr1 : Kd.C k24 w A1 so.length so) (hc1 : so.length ≤ c1) (hsu : su.length < 8796093022208) (hso : so.length ≤ 9223372036854775807)
    (hf : Fits su so) (hcut : ∀ i, 0 ≤ cut i ∧ cut i ≤ 64)
    (epf : ∀ args w, (callFunc pf args).run Try.prog w = .ok (.enter pf args) w)
    (hp : ∀ (i : Nat) (W : World), i < so.length → Below w.heap.size w W → Calls Try.prog pf (#[.int .i64 i] ++ lb) W fun e W' => e = .returned (.int .i64 (cut i)) ∧ Below W.heap.size W W') :
    Calls Try.prog 51 #[.agg #[.slice A0 su.length c0, .slice A1 so.length c1], .func (.func pf) #[] lb] w fun e w' => ∃ v0 v1, e = .returned (.agg #[v0, v1]) ∧ Kd.R Kd.string 9 w' w.heap.size (fun _ => True) v0 (fall su so cut 0) ∧ Kd.R k24 24 w' w.heap.size (fun _ => True) v1 [] ∧ Below w.heap.size w w' := by
  have HR0 := Lib.hid hr0
  have HR1 := Lib.hid hr1
  have HP := Lib.hid hp
  have HCUT := Lib.hid hcut
  have HF := Lib.hid hf
  clear hr0 hr1 hp hcut hf
  go_enter Try.func51, Try.ntmps51
  go_wp2_with fail
  generalize hU : World.alloc (World.alloc w _) _ = U
  have B1 : U.heap[w.heap.size]? = some (.cells #[.slice A0 su.length c0, .slice A1 so.length c1] 30 (0, 0)) := by rw [← hU]; exact heap_alloc2_old w _ _
  have B2 : U.heap[w.heap.size + 1]? = some (.cells #[.slice none 0 0, .slice none 0 0] 30 (0, 0)) := by rw [← hU]; exact heap_alloc2_new w _ _
  have HB : Below w.heap.size w U := by rw [← hU]; exact below_alloc (below_alloc (Below.refl w.heap.size w) _) _
  clear hU
  refine (slices_Clone_string_string.calls A0 c0 su su U (Kd.C_below HR0.out HB) hc0 (by unfold slices_Clone_string_string.f; rw [if_pos hsu])).mono ?_
  rintro e W1 ⟨v5, rfl, ho, hb⟩
  have B1' := blk_same B1 hb
  have B2' := blk_same B2 hb
  have HB' := HB.trans (hb.mono HB.size)
  have ho' : Kd.R Kd.string 9 W1 w.heap.size (fun _ => True) v5 (upto su so cut 0) := Kd.R_lower ho HB.size
  have c1' := (blk_cell B1' 1).trans rfl
  have HB1 := Lib.hid B1'
  have HB2 := Lib.hid B2'
  have HBB := Lib.hid HB'
  have HO := Lib.hid ho'
  clear B1 B2 HB hb ho B1' B2' HB' ho' U HR0
  go_wp2
  clear c1'
  go_loopw [15] (fun v15 X => ∃ i : Nat, i ≤ so.length ∧ v15 = .int .i64 i ∧ X.heap[w.heap.size]? = some (.cells #[.slice A0 su.length c0, .slice A1 so.length c1] 30 (0, 0)) ∧ X.heap[w.heap.size + 1]? = some (.cells #[.slice none 0 0, .slice none 0 0] 30 (0, 0)) ∧ Kd.R Kd.string 9 X w.heap.size (fun _ => True) v5 (upto su so cut i) ∧ Below w.heap.size w X)
    (fun v15 _ => so.length - (intOf v15).toNat)
  case atStart => exact ⟨0, by omega, rfl, HB1.out, HB2.out, HO.out, HBB.out⟩
  case round =>
    obtain ⟨i, hi, rfl, hb1, hb2, hR, hB⟩ := hrel
    clear HB1 HB2 HO HBB W1
    have hl : (upto su so cut i).length = su.length := fall_len _ _ _ _
    by_cases hlt : i < so.length
    · obtain ⟨ad, rfl, r0, r1, r2⟩ := at_T24 HR1.out (i : Int) (by omega) (by omega)
      have q0 := (hB.cell (World.block_lt_of_cell? w _ r0)).trans r0
      have q1 := (hB.cell (World.block_lt_of_cell? w _ r1)).trans r1
      have q2 := (hB.cell (World.block_lt_of_cell? w _ r2)).trans r2
      simp only [Int.toNat_natCast] at q0 q1 q2
      clear r0 r1 r2
      have hmem : rd_T24 so i ∈ so := by rw [rd24_get hlt]; exact List.getElem_mem _
      have hbk := HF.out.blk _ hmem
      have hby := HF.out.byt _ hmem
      have HNX := Lib.hid (upto_next (su := su) (cut := cut) hlt)
      have hsz := rdS_size (fall_sur (so.take i) su cut 0 ⟨fun m hm => HF.out.blk m (List.mem_of_mem_take hm), fun m hm => HF.out.byt m (List.mem_of_mem_take hm), HF.out.sur⟩ HCUT.out) (b := (rd_T24 so i).f1) hbk.1 (by rw [fall_len]; exact hbk.2)
      have hct := HCUT.out i
      generalize rd_T24 so i = m at *
      change (rdOf ByteArray.empty (upto su so cut i) m.f1).size = 64 at hsz
      obtain ⟨g, cap, hv5, hg0, hg1, cells, hcells⟩ := Kd.R_form hR (by omega)
      have hv5' := hv5
      rw [hl] at hv5'
      rw [hv5] at hR
      obtain ⟨rc, rf⟩ := Kd.R_cell (enc := Value.string) (h1 := fun _ => rfl) ByteArray.empty hR m.f1 hbk.1 (by omega)
      subst hv5'
      have HR := Lib.hid hR
      have HB := Lib.hid hB
      have HB1 := Lib.hid hb1
      have HB2 := Lib.hid hb2
      have HL := Lib.hid hl
      clear hR hB hb1 hb2 hv5 hcells hmem hl
      go_wp2_with fail
      generalize hX : World.alloc wr _ = X3
      have HX3 := Lib.hid (show Below wr.heap.size wr X3 by rw [← hX]; exact below_alloc (Below.refl _ _) _)
      have g7 : X3.heap[wr.heap.size]? = some (.cells #[.bool m.f0, .int .i64 m.f1, .string m.f2] 24 (0, 0)) := by rw [← hX]; exact heap_alloc_new wr _
      clear hX
      refine (HP.out i X3 hlt (HB.out.trans (HX3.out.mono HB.out.size))).mono ?_
      rintro e W4 ⟨rfl, hb⟩
      have g7' := blk_same g7 hb
      have HX4 := Lib.hid (HX3.out.trans (hb.mono HX3.out.size))
      have HR4 := Lib.hid (Kd.R_below HR.out HX4.out)
      have HG7 := Lib.hid g7'
      clear g7 hb g7' q0 q1 q2 rc rf
      go_wp2_with fail
      have d1 : ∀ p : XB.In (Below W4.heap.size W4), p.w.cell? ⟨wr.heap.size, 1, none⟩ = some (.int .i64 m.f1) := fun p => (blk_cell (blk_same HG7.out p.h) 1).trans rfl
      have d2 : ∀ p : XB.In (Below W4.heap.size W4), p.w.cell? ⟨wr.heap.size, 2, none⟩ = some (.string m.f2) := fun p => (blk_cell (blk_same HG7.out p.h) 2).trans rfl
      have d3 : ∀ p : XB.In (Below W4.heap.size W4), p.w.cell? ⟨g, m.f1.toNat, none⟩ = some (.string (rdOf ByteArray.empty (upto su so cut i) m.f1)) := fun p => (Kd.R_cell (enc := Value.string) (h1 := fun _ => rfl) ByteArray.empty (Kd.R_below HR4.out p.h) m.f1 hbk.1 (by rw [HL.out]; exact hbk.2)).1
      obtain ⟨hk0, hk1⟩ := hbk
      obtain ⟨hct0, hct1⟩ := hct
      have hs1 : cut i ≤ (m.f2.size : Int) := by omega
      have hs2 : cut i ≤ ((rdOf ByteArray.empty (upto su so cut i) m.f1).size : Int) := by omega
      haveI hne : Nonempty (XB.In (Below W4.heap.size W4)) := ⟨⟨W4.drew, below_drew1 (Below.refl _ _)⟩⟩
      refine XB.region_tail (fun w' => ∃ p : XB.In (Below W4.heap.size W4), w' = p.w) 16 (by kernel_rfl) (by kernel_rfl) ⟨⟨W4.drew, below_drew1 (Below.refl _ _)⟩, rfl⟩ ?_
      simp only [List.take_succ_cons, List.take_zero, List.drop_succ_cons, List.drop_zero]
      iterate 16 quiet_step (fail)
      refine wpQuiet_nil ?_
      rintro Y ⟨⟨_, hY⟩, rfl⟩
      have HRY := Lib.hid (Kd.R_below HR4.out hY)
      have HXY := Lib.hid (HX4.out.trans (hY.mono HX4.out.size))
      obtain ⟨rc, rf⟩ := Kd.R_cell (enc := Value.string) (h1 := fun _ => rfl) ByteArray.empty HRY.out m.f1 hk0 (by rw [HL.out]; exact hk1)
      clear hY d1 d2 d3 hne
      go_wp2
      have P := Kd.R_put (enc := Value.string) (h1 := fun _ => rfl) HRY.out m.f1 (m.f2.extract 0 (cut i).toNat ++ (rdOf ByteArray.empty (upto su so cut i) m.f1).extract (cut i).toNat 64)
      have hB' := HB.out.trans (HXY.out.mono HB.out.size)
      have y1 := blk_same HB1.out HXY.out
      have y2 := blk_same HB2.out HXY.out
      have n1 : w.heap.size ≠ g := fun e => Kd.R_ne HRY.out y1 (by decide) (by rw [e]; rfl)
      have n2 : w.heap.size + 1 ≠ g := fun e => Kd.R_ne HRY.out y2 (by decide) (by rw [e]; rfl)
      go_roundw
      case rel =>
        refine ⟨i + 1, by omega, by simp, blk_far y1 n1 _, blk_far y2 n2 _, ?_, hB'.setCell hg0 _⟩
        rw [HNX.out, ← HL.out]
        unfold put1
        rw [hsz]
        exact P.1
      case measure => simp [intOf]; omega
    · obtain rfl : i = so.length := by omega
      have c2a : wr.cell? ⟨w.heap.size + 1, 0, none⟩ = some (.slice none 0 0) := (blk_cell hb2 0).trans rfl
      have c2b : wr.cell? ⟨w.heap.size + 1, 1, none⟩ = some (.slice none 0 0) := (blk_cell hb2 1).trans rfl
      have f2a := blk_frozen hb2 0
      have f2b := blk_frozen hb2 1
      have hfin : upto su so cut so.length = fall su so cut 0 := by unfold upto; rw [List.take_length]
      rw [hfin] at hR
      obtain ⟨Ao, co, hv⟩ := Kd.R_slice hR
      subst hv
      have HR := Lib.hid hR
      have HB := Lib.hid hB
      have HB2 := Lib.hid hb2
      clear hR hB hb2 hb1 hl hfin
      go_wp2
      have X := XB.put21 (XB.put20 HB2.out (.slice Ao (fall su so cut 0).length co)) (.slice none 0 0)
      refine bodyPost_ret (results_cell_row rfl _ _ (w.heap.size + 1) 30 #[.slice Ao (fall su so cut 0).length co, .slice none 0 0] (0, 0) _ rfl X Try.underlying30 rfl (by kernel_rfl)) rfl ?_
      exact ⟨_, _, rfl, Kd.R_set (Kd.R_set HR.out HB2.out (by decide) 0 _) (XB.put20 HB2.out (.slice Ao (fall su so cut 0).length co)) (by decide) 1 _, Kd.R_nil _ _ _ _ _, (HB.out.setCell (by show w.heap.size ≤ w.heap.size + 1; omega) _).setCell (by show w.heap.size ≤ w.heap.size + 1; omega) _⟩
end Go.Proofs.Ytcfinlmocgbnbaa.Pr
end
section
namespace Go.Proofs.Ytcfinlmocgbnbaa.Pr
open Go.Proofs.Ytcfinlmocgbnbaa.Sq Go.RowKit Go.Proofs.YtcfinlmocgbnbaaW.PrintWords Go.Proofs.YtcfinlmocgbnbaaW.PrintLast Go.Proofs.YtcfinlmocgbnbaaW.PrintMore
attribute [local go_sem] max2_int min2_int max_two min_two max_three min_three max_four min_four
set_option linter.unusedVariables false
set_option linter.unusedSimpArgs false
def disk_own.f (l0_0 : List ByteArray) (l0_1 : List (S24)) : Option (List ByteArray × (List (S24))) := (slices_Clone_string_string.f l0_0).bind fun tz3 => ((api_Move_77.f l0_1).bind fun tz6 => (some (tz3, tz6)))
def disk_own.T1 : Bool × List (List Nat × List Nat) := (true, [([], []), ([0], [0]), ([1], [1]), ([], []), ([3], [3]), ([4, 2], [4]), ([2, 5], [2, 5]), ([6, 5, 0, 1, 2, 3, 4, 5, 6], [6])])
def disk_own.B1 : List Nat := [0, 1, 3, 0, 8, 31, 63, 127]
theorem disk_own.tab1 : rtab .any (opsOf Try.f50 1) = disk_own.T1 := by kernel_rfl
theorem disk_own.bits1 : waitsOk disk_own.T1.2 disk_own.B1 = true := by kernel_rfl
set_option maxHeartbeats 8000000 in
set_option maxRecDepth 100000 in
theorem disk_own.calls (A0_0 : Option Addr) (c0_0 : Nat) (l0_0 : List ByteArray) (A0_1 : Option Addr) (c0_1 : Nat) (l0_1 : List (S24)) (r1 : List ByteArray) (r2 : List (S24)) (w : World) (hr0_0 : Kd.C Kd.string w A0_0 l0_0.length l0_0) (hc0_0 : l0_0.length ≤ c0_0) (hr0_1 : Kd.C k24 w A0_1 l0_1.length l0_1) (hc0_1 : l0_1.length ≤ c0_1) (h : disk_own.f l0_0 l0_1 = some (r1, r2)) :
  Calls Try.prog 50 #[.agg #[.slice A0_0 l0_0.length c0_0, .slice A0_1 l0_1.length c0_1]] w fun e w' => ∃ v0_ v1_ : Value, e = .returned (.agg #[v0_, v1_]) ∧ Kd.R Kd.string 9 w' w.heap.size (fun _ => True) v0_ r1 ∧ Kd.R k24 24 w' w.heap.size (fun _ => True) v1_ r2 ∧ Below w.heap.size w w' := by
 have hu30 := Try.underlying30
 have HR0_0 := am hr0_0
 have HC0_0 := am hc0_0
 clear hr0_0 hc0_0
 have HR0_1 := am hr0_1
 have HC0_1 := am hc0_1
 clear hr0_1 hc0_1
 have HB := am (Below.refl w.heap.size w)
 have H : ((slices_Clone_string_string.f l0_0).bind fun tz3 => ((api_Move_77.f l0_1).bind fun tz6 => (some (tz3, tz6)))) = some (r1, r2) := h
 clear h
 replace H := ob_ H
 obtain ⟨tz3, A20, H⟩ := H
 replace H : ((api_Move_77.f l0_1).bind fun tz6 => (some (tz3, tz6))) = some (r1, r2) := H
 have A2 := Aside0.mk A20
 clear A20
 replace H := ob_ H
 obtain ⟨tz6, A30, H⟩ := H
 replace H : (some (tz3, tz6)) = some (r1, r2) := H
 have A3 := Aside0.mk A30
 clear A30
 simp only [Option.some.injEq, Prod.mk.injEq] at H
 obtain ⟨rfl, rfl⟩ := H
 go_enter Try.func50, Try.ntmps50
 try go_wp2_with (first | ((with_reducible refine gate_dst (N := 1) rfl ?_); refine box_event ?hg (N := 1) ?hd (cs := #[.slice A0_0 l0_0.length c0_0, .slice A0_1 l0_1.length c0_1]) (t := 30) ?hr ?_; (case hd => rfl); (case hg => rfl); (case hr => first | (go_simp; done) | (go_simp; rfl)); intro gbz1 hg w4 hbox hb; have n0_ := am (below_step (pb HB) hb); have n1_ := am (hbox); have n2_ := ge_ hg (pb HB); have n3_ := ge_ hg (pb HB); clear HB; have HB := n0_; have BKz1 := n1_; have GWz1 := n2_; have GEz1 := n3_; clear n0_ n1_ n2_ n3_; clear hb hbox hg) | ((with_reducible refine gate_dst (N := 2) rfl ?_); refine box_event ?hg (N := 2) ?hd (cs := #[.slice none 0 0, .slice none 0 0]) (t := 30) ?hr ?_; (case hd => rfl); (case hg => rfl); (case hr => first | (go_simp; done) | (go_simp; rfl)); intro gbz2 hg w5 hbox hb; have n0_ := am (bkB (pk BKz1) hb); have n1_ := am (below_step (by repeat first | (with_reducible first | exact HB.out | apply ba | apply bn | apply bd | refine bs (by assumption) ?_) | exact HB.out) hb); have n2_ := am (hbox); have n3_ := ge_ hg (by repeat first | (with_reducible first | exact HB.out | apply ba | apply bn | apply bd | refine bs (by assumption) ?_) | exact HB.out); have n4_ := ge_ hg (by repeat first | (with_reducible first | exact HB.out | apply ba | apply bn | apply bd | refine bs (by assumption) ?_) | exact HB.out); have n5_ := nl_ hg BKz1; have n6_ := ng_ hg BKz1; clear BKz1; clear HB; have BKz1 := n0_; have HB := n1_; have BKz2 := n2_; have GWz2 := n3_; have GEz2 := n4_; have NBz1_z2 := n5_; have NBz2_z1 := n6_; clear n0_ n1_ n2_ n3_ n4_ n5_ n6_; clear hb hbox hg))
 have n0_ := am (bkD BKz1.out)
 have n1_ := am (bkD BKz2.out)
 have n2_ := am (below_drew1 HB.out)
 clear BKz1 BKz2 HB; have BKz1 := n0_; have BKz2 := n1_; have HB := n2_; clear n0_ n1_ n2_
 refine start_ (n := 8) (S := fun w' => w'.cell? ⟨gbz1, 0, none⟩ = some (.slice A0_0 l0_0.length c0_0) ∧ w'.cell? ⟨gbz1, 1, none⟩ = some (.slice A0_1 l0_1.length c0_1)) (ds := []) #[false, false, false, false, false, false, false, false] (by kernel_rfl) rfl rfl (bc2 BKz1) (fun hHeld => ?_); refine with_tabW disk_own.tab1 disk_own.bits1 (fun HT_ HW_ => ?_)
 generalize w5.drew = w6 at BKz1 BKz2 HB hHeld ⊢
 refine pu_ 0 (some 3) HT_ rfl rfl (.inl ⟨by rfl, by intro w'; go_simp; with_reducible rfl⟩) (by simp only [Act.put, sa_, s0_, s1_, i64_w, i32_w]; rfl) ?_
 refine pu_ 3 (some 6) HT_ rfl rfl (.inl ⟨by rfl, by intro w'; go_simp; with_reducible rfl⟩) (by simp only [Act.put, sa_, s0_, s1_, i64_w, i32_w]; rfl) ?_
 refine tk_ 1 (some 4) HT_ HW_ rfl rfl (.inl ⟨by rfl, by rintro w' ⟨s0, s1⟩; go_simp; with_reducible rfl⟩) hHeld (by simp only [Act.put, sa_, s0_, s1_, i64_w, i32_w]; rfl) ?_
 refine tk_ 4 (some 7) HT_ HW_ rfl rfl (.inl ⟨by rfl, by rintro w' ⟨s0, s1⟩; go_simp; with_reducible rfl⟩) hHeld (by simp only [Act.put, sa_, s0_, s1_, i64_w, i32_w]; rfl) ?_
 refine on_ 2 (some 5) HT_ rfl rfl (fun K hK => ?_)
 refine goes_ Try.func76 (by kernel_rfl) rfl #[.slice A0_0 l0_0.length c0_0] (by rfl) rfl rfl (by (try simp only [List.map_toArray, List.map_cons, List.map_nil]) <;> rfl) ?_
 with_reducible refine (slices_Clone_string_string.calls _ _ l0_0 tz3 _ ?side1 ?side2 A2.out).mono ?_
 (case side1 => repeat (first | exact (Kd.C_below HR0_0.out HB.out) | (with_reducible refine Kd.C_alloc ?_ _) | (with_reducible refine Kd.C_drewN ?_ _) | (with_reducible refine Kd.C_drew ?_)))
 (case side2 => exact HC0_0.out)
 rintro e w7 ⟨vz4, rfl, ho0, hb⟩
 refine ⟨_, rfl, ?_⟩
 have n0_ := am (Kd.R_lower ho0 (below_size (by repeat first | (with_reducible first | exact HB.out | apply ba | apply bn | apply bd | refine bs (by assumption) ?_) | exact HB.out)))
 have n1_ := am (bkB (pk BKz1) hb)
 have n2_ := am (bkB (pk BKz2) hb)
 have n3_ := am (below_step (by repeat first | (with_reducible first | exact HB.out | apply ba | apply bn | apply bd | refine bs (by assumption) ?_) | exact HB.out) hb)
 clear BKz1 BKz2 HB; have HOz5 := n0_; have BKz1 := n1_; have BKz2 := n2_; have HB := n3_; clear n0_ n1_ n2_ n3_; refine hK.out _ _ (bc2 BKz1) (fun hHeld => ?_)
 clear hK K
 refine norm_ (by show Act.put _ (some 5) _ = _; simp only [Act.put, sa_, s0_, s1_, i64_w, i32_w]; rfl) ?_
 refine on_ 5 (some 8) HT_ rfl rfl (fun K hK => ?_)
 refine goes_ Try.func77 (by kernel_rfl) rfl #[.slice A0_1 l0_1.length c0_1] (by rfl) rfl rfl (by (try simp only [List.map_toArray, List.map_cons, List.map_nil]) <;> rfl) ?_
 with_reducible refine (api_Move_77.calls _ _ l0_1 tz6 _ ?side1 ?side2 A3.out).mono ?_
 (case side1 => repeat (first | exact (Kd.C_below HR0_1.out HB.out) | (with_reducible refine Kd.C_alloc ?_ _) | (with_reducible refine Kd.C_drewN ?_ _) | (with_reducible refine Kd.C_drew ?_)))
 (case side2 => exact HC0_1.out)
 rintro e w8 ⟨vz7, rfl, ho0, hb⟩
 refine ⟨_, rfl, ?_⟩
 have n0_ := am (Kd.R_below (pr HOz5) hb)
 have n1_ := am (Kd.R_lower ho0 (below_size (by repeat first | (with_reducible first | exact HB.out | apply ba | apply bn | apply bd | refine bs (by assumption) ?_) | exact HB.out)))
 have n2_ := am (bkB (pk BKz1) hb)
 have n3_ := am (bkB (pk BKz2) hb)
 have n4_ := am (below_step (by repeat first | (with_reducible first | exact HB.out | apply ba | apply bn | apply bd | refine bs (by assumption) ?_) | exact HB.out) hb)
 clear HOz5 BKz1 BKz2 HB; have HOz5 := n0_; have HOz8 := n1_; have BKz1 := n2_; have BKz2 := n3_; have HB := n4_; clear n0_ n1_ n2_ n3_ n4_; obtain ⟨Ao9, co9, eo9⟩ := Kd.R_slice HOz8.out
 (first | subst eo9 | (injection eo9 with f1_ f2_ f3_; have f4_ := f1_.symm; have f5_ := f3_.symm; clear f1_ f2_ f3_; subst f4_; subst f5_))
 obtain ⟨Ao10, co10, eo10⟩ := Kd.R_slice HOz5.out
 (first | subst eo10 | (injection eo10 with f1_ f2_ f3_; have f4_ := f1_.symm; have f5_ := f3_.symm; clear f1_ f2_ f3_; subst f4_; subst f5_))
 refine hK.out _ _ (bc2 BKz1) (fun hHeld => ?_)
 clear hK K
 refine norm_ (by show Act.put _ (some 8) _ = _; simp only [Act.put, sa_, s0_, s1_, i64_w, i32_w]; rfl) ?_
 refine pu_ 6 (some 9) HT_ rfl rfl (.inl ⟨by rfl, by intro w'; go_simp; with_reducible rfl⟩) (by simp only [Act.put, sa_, s0_, s1_, i64_w, i32_w]; rfl) ?_
 refine on_ 7 none HT_ rfl rfl (fun K hK => ?_)
 have hs11 : w8.cell? ⟨gbz2, 0, none⟩ = some (.slice none 0 0) := (blk_cell BKz2.out 0).trans rfl
 have hfs11 := blk_frozen BKz2.out 0
 have := NBz1_z2.out
 have := NBz2_z1.out
 have hs12 : w8.cell? ⟨gbz2, 1, none⟩ = some (.slice none 0 0) := (blk_cell BKz2.out 1).trans rfl
 have hfs12 := blk_frozen BKz2.out 1
 have := NBz1_z2.out
 have := NBz2_z1.out
 refine skip_ (by rfl) rfl (by go_simp; rfl) ?_
 refine hK.out _ _ ⟨((cell_far (p := ⟨gbz2, _, none⟩) NBz1_z2.out _).trans (((cell_far (p := ⟨gbz2, _, none⟩) NBz1_z2.out _).trans (hHeld.1)))), ((cell_far (p := ⟨gbz2, _, none⟩) NBz1_z2.out _).trans (((cell_far (p := ⟨gbz2, _, none⟩) NBz1_z2.out _).trans (hHeld.2))))⟩ (fun hHeld => ?_)
 clear hK K
 refine done_ (done_of HT_.out (by kernel_rfl)) ?_
 try go_wp2
 refine bodyPost_ret (results_cell_row rfl _ _ gbz2 30 #[.slice Ao10 tz3.length co10, .slice Ao9 tz6.length co9] (0, 0) _ rfl (by (with_reducible repeat (first | refine blk_drewN ?_ _ | refine bkD ?_ | refine bkA ?_ _)); apply bp2; exact pk BKz2) Try.underlying30 rfl (by kernel_rfl)) rfl ?_
 exact ⟨_, _, by first | rfl | (simp <;> rfl) | (simp [*] <;> rfl), by (with_reducible repeat first | apply ra | apply rn | apply rd); exact Kd.R_mono (rf2 (Kd.R_types HOz5.out BKz2.out (by decide)) (fun _ hk => hk.2)) (fun _ hk => trivial), by (with_reducible repeat first | apply ra | apply rn | apply rd); exact Kd.R_mono (rf2 (Kd.R_types HOz8.out BKz2.out (by decide)) (fun _ hk => hk.2)) (fun _ hk => trivial), by repeat first | (with_reducible first | exact HB.out | apply ba | apply bn | apply bd | refine bs (by assumption) ?_) | exact HB.out⟩
end Go.Proofs.Ytcfinlmocgbnbaa.Pr
end
section
namespace Go.Proofs.Ytcfinlmocgbnbaa.Pr
open Go.RowKit Go.Shelf Go.Proofs.Ytcfinlmocgbnbaa.XB Go.Proofs.YtcfinlmocgbnbaaW.PrintWords
attribute [local go_sem] Oper.semAt_some
set_option linter.unusedVariables false
set_option linter.unusedSimpArgs false
structure RightS (su : List ByteArray) (so : List S24) : Prop where
  one : 1 ≤ su.length
  most : su.length ≤ 400
  few : so.length ≤ 3000
  fits : Fits su so
  nos : ∀ m ∈ so, m.f0 = false
theorem right_iff {su : List ByteArray} {so : List S24} : rightB su so = true ↔ RightS su so := by
  unfold rightB
  simp only [Bool.and_eq_true, decide_eq_true_eq, Bool.not_eq_true', List.any_eq_false, Bool.not_eq_true]
  constructor
  · rintro ⟨h0, h1, h2, h3, h4, h5⟩
    have hs : ∀ m ∈ so, m.f0 = false := fun m hm => by have := h4 m hm; simpa [syncB] using this
    have ho : ∀ m ∈ so, ¬ m.f1 < 0 ∧ ¬ m.f1 ≥ (su.length : Int) ∧ (m.f2.size : Int) = 64 := fun m hm => by
      have := h5 m hm
      unfold oddB at this
      rw [hs m hm] at this
      simpa [and_assoc] using this
    refine ⟨by omega, by omega, by omega, ⟨fun m hm => ?_, fun m hm => ?_, fun s hs' => ?_⟩, hs⟩
    · have := ho m hm; omega
    · have := ho m hm; omega
    · have := h3 s hs'
      unfold shortB at this
      have h := of_decide_eq_false this
      omega
  · rintro ⟨h0, h1, h2, ⟨h3, h4, h5⟩, h6⟩
    refine ⟨by omega, by omega, by omega, fun s hs => ?_, fun m hm => ?_, fun m hm => ?_⟩
    · have := h5 s hs
      unfold shortB
      simp only [decide_eq_false_iff_not]
      omega
    · simpa [syncB] using h6 m hm
    · unfold oddB
      rw [h6 m hm]
      have a := h3 m hm
      have b := h4 m hm
      simp only [Bool.false_eq_true, if_false, Bool.or_eq_false_iff, decide_eq_false_iff_not]
      omega
theorem cutOf_range (cuts : List Int) (i : Nat) : 0 ≤ cutOf cuts i ∧ cutOf cuts i ≤ 64 := by
  unfold cutOf
  split <;> omega
theorem boxes3 (w : World) (o0 o1 o2 : Obj) :
    (((w.alloc o0).alloc o1).alloc o2).heap[w.heap.size]? = some o0 ∧ (((w.alloc o0).alloc o1).alloc o2).heap[w.heap.size + 1]? = some o1 ∧ (((w.alloc o0).alloc o1).alloc o2).heap[w.heap.size + 2]? = some o2 := by
  show (((w.heap.push _).push _).push _)[_]? = _ ∧ (((w.heap.push _).push _).push _)[_]? = _ ∧ (((w.heap.push _).push _).push _)[_]? = _
  refine ⟨?_, ?_, ?_⟩ <;> (simp only [Array.getElem?_push, Array.size_push]; repeat (first | rw [if_pos trivial] | rw [if_pos (by omega)] | rw [if_neg (by omega)]))
theorem ret30 {fn : Func} {tmps : Array Value} {w w0 : World} {g : Nat} {v0 v1 : Value} {n : Int} {r1 : List ByteArray} {r2 : List S24} {c0 c1 : Value} {p q : Nat} (hres : fn.results = #[.cell p 30, .tmp q])
    (hp : tmps.getD p undef = .pointer (some ⟨g, 0, none⟩)) (hq : tmps.getD q undef = .int .i64 n) (hg : w.heap[g]? = some (.cells #[c0, c1] 30 (0, 0))) (hgb : w0.heap.size ≤ g)
    (h0 : Kd.R Kd.string 9 w w0.heap.size (fun _ => True) v0 r1) (h1 : Kd.R k24 24 w w0.heap.size (fun _ => True) v1 r2) (hB : Below w0.heap.size w0 w) (e : Exit) (he : e = .ret) :
    bodyPost Try.prog fn (fun e w' => ∃ v0_ v1_ : Value, e = .returned (.tuple #[.agg #[v0_, v1_], .int .i64 n]) ∧ Kd.R Kd.string 9 w' w0.heap.size (fun _ => True) v0_ r1 ∧ Kd.R k24 24 w' w0.heap.size (fun _ => True) v1_ r2 ∧ Below w0.heap.size w0 w') e { tmps := tmps, defers := [] } ((w.setCell ⟨g, 0, none⟩ v0).setCell ⟨g, 1, none⟩ v1) := by
  subst he
  have X := XB.put21 (XB.put20 hg v0) v1
  have V : XB.ValsX Try.prog tmps ((w.setCell ⟨g, 0, none⟩ v0).setCell ⟨g, 1, none⟩ v1) [.cell p 30, .tmp q] [.agg #[v0, v1], .int .i64 n] := by
    rw [← hq]
    exact .cell _ _ _ _ _ hp X Try.underlying30 rfl (by kernel_rfl) (.tmp .nil)
  refine bodyPost_ret (XB.resultsX_list hres (by simp) V) rfl ?_
  exact ⟨_, _, rfl, Kd.R_set (Kd.R_set h0 hg (by decide) 0 _) (XB.put20 hg v0) (by decide) 1 _, Kd.R_set (Kd.R_set h1 hg (by decide) 0 _) (XB.put20 hg v0) (by decide) 1 _, (hB.setCell hgb _).setCell hgb _⟩
theorem own_f {su : List ByteArray} {so : List S24} (h : su.length < 8796093022208 ∧ so.length < 4398046511104) : disk_own.f su so = some (su, so) := by
  unfold disk_own.f slices_Clone_string_string.f api_Move_77.f
  rw [if_pos h.1, if_pos h.2]
  rfl
end Go.Proofs.Ytcfinlmocgbnbaa.Pr
end
section
namespace Go.Proofs.Ytcfinlmocgbnbaa.Pr
open Go.RowKit Go.Shelf Go.Proofs.Ytcfinlmocgbnbaa.XB Go.Proofs.YtcfinlmocgbnbaaW.PrintWords Go.Proofs.YtcfinlmocgbnbaaW.PrintLast Go.Proofs.YtcfinlmocgbnbaaW.PrintMore
attribute [local go_sem] Oper.semAt_some
set_option linter.unusedVariables false
set_option linter.unusedSimpArgs false
set_option maxRecDepth 100000 in
theorem all_calls (i : Nat) (w : World) : Calls Try.prog 52 #[.int .i64 i] w fun e w' => e = .returned (.int .i64 64) ∧ Below w.heap.size w w' := by
  go_enter Try.func52, Try.ntmps52
  go_wp2
  go_ret
  exact ⟨rfl, Below.refl _ _⟩
structure DoInv (n : Nat) (su : List ByteArray) (so : List S24) : Prop where
  len : su.length = n
  few : so.length ≤ 3000
  fits : Fits su so
theorem odd_not {n : Int} {m : S24} (h : oddB n m = false) : m.f0 = false → 0 ≤ m.f1 ∧ m.f1 < n ∧ m.f2.size = 64 := by
  intro h0
  unfold oddB at h
  rw [h0] at h
  simp only [Bool.false_eq_true, if_false, Bool.or_eq_false_iff, decide_eq_false_iff_not] at h
  omega
theorem inv_fall {n : Nat} {su : List ByteArray} {so : List S24} (h : DoInv n su so) : DoInv n (fall su so (fun _ => 64) 0) [] :=
  ⟨by rw [fall_len]; exact h.len, by simp, ⟨fun m hm => by simp at hm, fun m hm => by simp at hm, fall_sur so su _ 0 h.fits (fun _ => by omega)⟩⟩
theorem inv_app {n : Nat} {su : List ByteArray} {so : List S24} {m : S24} (h : DoInv n su so) (hm : oddB n m = false) (h0 : m.f0 = false) (h1 : so.length ≠ 3000) : DoInv n su (so ++ [m]) := by
  obtain ⟨a, b, c⟩ := odd_not hm h0
  have hl := h.len
  refine ⟨hl, by have := h.few; simp; omega, ⟨fun x hx => ?_, fun x hx => ?_, h.fits.sur⟩⟩
  · rcases List.mem_append.1 hx with hx | hx
    · exact h.fits.blk x hx
    · obtain rfl : x = m := by simpa using hx
      omega
  · rcases List.mem_append.1 hx with hx | hx
    · exact h.fits.byt x hx
    · obtain rfl : x = m := by simpa using hx
      exact c
theorem doL_at {su0 : List ByteArray} {so0 : List S24} {su : List ByteArray} {so : List S24} {l : List S24} {i : Nat} (h : i < l.length) :
    doL su0 so0 su so (l.drop i) = if (rd_T24 l i).f0 = true then doL su0 so0 (fall su so (fun _ => 64) 0) [] (l.drop (i + 1)) else if (so.length : Int) = 3000 then (su0, so0, 2) else doL su0 so0 su (so ++ [rd_T24 l i]) (l.drop (i + 1)) := by
  rw [List.drop_eq_getElem_cons h, rd24_get h]
  rfl
def disk_Do.f (l0_0 : List ByteArray) (l0_1 : List (S24)) (l1 : List (S24)) : Option (List ByteArray × (List (S24)) × Int) := if l0_0.length < 8796093022208 ∧ l0_1.length < 4398046511104 then some (doB l0_0 l0_1 l1) else none
set_option maxRecDepth 100000 in
set_option maxHeartbeats 4000000 in
theorem disk_Do.calls (A0_0 : Option Addr) (c0_0 : Nat) (l0_0 : List ByteArray) (A0_1 : Option Addr) (c0_1 : Nat) (l0_1 : List (S24)) (A1 : Option Addr) (c1 : Nat) (l1 : List (S24)) (r1 : List ByteArray) (r2 : List (S24)) (r3 : Int) (w : World) (hr0_0 : Kd.C Kd.string w A0_0 l0_0.length l0_0) (hc0_0 : l0_0.length ≤ c0_0) (hr0_1 : Kd.C k24 w A0_1 l0_1.length l0_1) (hc0_1 : l0_1.length ≤ c0_1) (hr1 : Kd.C k24 w A1 l1.length l1) (hc1 : l1.length ≤ c1) (h : disk_Do.f l0_0 l0_1 l1 = some (r1, r2, r3)) :
    Calls Try.prog 25 #[.agg #[.slice A0_0 l0_0.length c0_0, .slice A0_1 l0_1.length c0_1], .slice A1 l1.length c1] w fun e w' => ∃ v0_ v1_ : Value, e = .returned (.tuple #[.agg #[v0_, v1_], .int .i64 r3]) ∧ Kd.R Kd.string 9 w' w.heap.size (fun _ => True) v0_ r1 ∧ Kd.R k24 24 w' w.heap.size (fun _ => True) v1_ r2 ∧ Below w.heap.size w w' := by
  unfold disk_Do.f at h
  by_cases hl : l0_0.length < 8796093022208 ∧ l0_1.length < 4398046511104
  case neg => rw [if_neg hl] at h; cases h
  rw [if_pos hl] at h
  have H := Option.some.inj h
  have HO := Lib.hid (own_f hl)
  have HR0 := Lib.hid hr0_0
  have HR1 := Lib.hid hr0_1
  have HR2 := Lib.hid hr1
  have hxs : l1.length ≤ 9223372036854775807 := Kd.C_max hr1
  clear h hr0_0 hr0_1 hr1
  unfold doB at H
  have HRC := Lib.hid (fun W (hW : Below w.heap.size w W) => disk_Right.calls A0_0 c0_0 l0_0 A0_1 c0_1 l0_1 _ W (Kd.C_below HR0.out hW) hc0_0 (Kd.C_below HR1.out hW) hc0_1 rfl)
  have HOW := Lib.hid (fun W (hW : Below w.heap.size w W) => disk_own.calls A0_0 c0_0 l0_0 A0_1 c0_1 l0_1 l0_0 l0_1 W (Kd.C_below HR0.out hW) hc0_0 (Kd.C_below HR1.out hW) hc0_1 HO.out)
  by_cases hb : rightB l0_0 l0_1 = true
  · have HS := right_iff.1 hb
    have HSS := Lib.hid HS
    rw [hb] at HRC
    cases hany : l1.any (oddB l0_0.length)
    · rw [if_pos ⟨hb, hany⟩] at H
      have HANY := Lib.hid (List.any_eq_false.1 hany)
      have HD := Lib.hid H
      clear hb HS H
      go_enter Try.func25, Try.ntmps25
      go_wp2_with fail
      generalize hU : World.alloc (World.alloc w _) _ = U
      obtain ⟨b1, b2⟩ : U.heap[w.heap.size]? = some (.cells #[.slice A0_0 l0_0.length c0_0, .slice A0_1 l0_1.length c0_1] 30 (0, 0)) ∧ U.heap[w.heap.size + 1]? = some (.cells #[.slice none 0 0, .slice none 0 0] 30 (0, 0)) := by rw [← hU]; exact ⟨heap_alloc2_old w _ _, heap_alloc2_new w _ _⟩
      have HB : Below w.heap.size w U := by rw [← hU]; exact below_alloc (below_alloc (Below.refl w.heap.size w) _) _
      clear hU
      refine (HRC.out U HB).mono ?_
      rintro e W1 ⟨rfl, hb⟩
      have b1' := blk_same b1 hb
      have B1 := Lib.hid b1'
      have B2 := Lib.hid (blk_same b2 hb)
      have HB1 := Lib.hid (HB.trans (hb.mono HB.size))
      have k0 : W1.cell? ⟨w.heap.size, 0, none⟩ = some (.slice A0_0 l0_0.length c0_0) := (blk_cell b1' 0).trans rfl
      have k1 : W1.cell? ⟨w.heap.size, 1, none⟩ = some (.slice A0_1 l0_1.length c0_1) := (blk_cell b1' 1).trans rfl
      clear b1 b2 b1' hb HB U
      go_wp2_with fail
      refine (oddF_calls l0_0.length _).mono ?_
      rintro e W2 ⟨rfl, hW2⟩
      have hb2 := (show Below W1.heap.size W1 W2 by rw [hW2]; exact below_alloc (Below.refl _ _) _)
      have hg := Lib.hid (show W2.heap[W1.heap.size]? = some (.cells #[.int .i64 l0_0.length] 3 (0, 0)) by rw [hW2]; exact heap_alloc_new _ _)
      have B1b := Lib.hid (blk_same B1.out hb2)
      have B2b := Lib.hid (blk_same B2.out hb2)
      have HB2 := Lib.hid (HB1.out.trans (hb2.mono HB1.out.size))
      clear hb2 hW2 B1 B2 HB1 k0 k1
      generalize W1.heap.size = g48 at *
      clear W1
      go_wp2_with fail
      refine (contains47_calls 73 #[.pointer (some ⟨g48, 0, none⟩)] (oddB l0_0.length) A1 c1 l1 _ (Kd.C_below HR2.out HB2.out) hc1 (Kd.C_max HR2.out) (fun _ _ => rfl) (fun x W hW => odd_calls x l0_0.length g48 _ W hg.out hW)).mono ?_
      rintro e W3 ⟨rfl, hb3⟩
      rw [hany]
      have b1' := blk_same B1b.out hb3
      have B1c := Lib.hid b1'
      have B2c := Lib.hid (blk_same B2b.out hb3)
      have HB3 := Lib.hid (HB2.out.trans (hb3.mono HB2.out.size))
      have k0 : W3.cell? ⟨w.heap.size, 0, none⟩ = some (.slice A0_0 l0_0.length c0_0) := (blk_cell b1' 0).trans rfl
      have k1 : W3.cell? ⟨w.heap.size, 1, none⟩ = some (.slice A0_1 l0_1.length c0_1) := (blk_cell b1' 1).trans rfl
      clear hb3 b1' hg B1b B2b HB2 hany
      go_wp2_with fail
      refine (HOW.out W3 HB3.out).mono ?_
      rintro e W4 ⟨v0, v1, rfl, ho0, ho1, hb⟩
      obtain ⟨Ao, co, e0⟩ := Kd.R_slice ho0
      obtain ⟨Ap, cp, e1⟩ := Kd.R_slice ho1
      subst e0
      subst e1
      have h0 := Lib.hid (Kd.R_lower ho0 HB3.out.size)
      have h1 := Lib.hid (Kd.R_lower ho1 HB3.out.size)
      have B1d := Lib.hid (blk_same B1c.out hb)
      have B2d := Lib.hid (blk_same B2c.out hb)
      have HB4 := Lib.hid (HB3.out.trans (hb.mono HB3.out.size))
      clear hb ho0 ho1 B1c B2c HB3 k0 k1
      go_wp2_with fail
      generalize hX : World.alloc W4 _ = X
      have B6 := Lib.hid (show X.heap[W4.heap.size]? = some (.cells #[.slice Ao l0_0.length co, .slice Ap l0_1.length cp] 30 (0, 0)) by rw [← hX]; exact heap_alloc_new W4 _)
      have h0' := Lib.hid (show Kd.R Kd.string 9 X w.heap.size (fun _ => True) (.slice Ao l0_0.length co) l0_0 by rw [← hX]; exact Kd.R_alloc h0.out _)
      have h1' := Lib.hid (show Kd.R k24 24 X w.heap.size (fun _ => True) (.slice Ap l0_1.length cp) l0_1 by rw [← hX]; exact Kd.R_alloc h1.out _)
      have B1e := Lib.hid (show X.heap[w.heap.size]? = some (.cells #[.slice A0_0 l0_0.length c0_0, .slice A0_1 l0_1.length c0_1] 30 (0, 0)) by rw [← hX]; exact bkA B1d.out _)
      have B2e := Lib.hid (show X.heap[w.heap.size + 1]? = some (.cells #[.slice none 0 0, .slice none 0 0] 30 (0, 0)) by rw [← hX]; exact bkA B2d.out _)
      have HBX := Lib.hid (show Below w.heap.size w X by rw [← hX]; exact below_alloc HB4.out _)
      have n2 : w.heap.size + 1 < W4.heap.size := blk_lt B2d.out
      have DI : DoInv l0_0.length l0_0 l0_1 := ⟨rfl, HSS.out.few, HSS.out.fits⟩
      clear hX h0 h1 B1d B2d HB4
      generalize W4.heap.size = g6 at *
      clear W4 W3
      go_loopw [26] (fun v26 Y => ∃ (i : Nat) (su : List ByteArray) (so : List S24) (Ao Ap : Option Addr) (co cp : Nat), i ≤ l1.length ∧ v26 = .int .i64 i ∧ DoInv l0_0.length su so ∧ doL l0_0 l0_1 su so (l1.drop i) = (r1, r2, r3) ∧
          Y.heap[w.heap.size]? = some (.cells #[.slice A0_0 l0_0.length c0_0, .slice A0_1 l0_1.length c0_1] 30 (0, 0)) ∧ Y.heap[w.heap.size + 1]? = some (.cells #[.slice none 0 0, .slice none 0 0] 30 (0, 0)) ∧ Y.heap[g6]? = some (.cells #[.slice Ao su.length co, .slice Ap so.length cp] 30 (0, 0)) ∧
          Kd.R Kd.string 9 Y w.heap.size (fun _ => True) (.slice Ao su.length co) su ∧ Kd.R k24 24 Y w.heap.size (fun _ => True) (.slice Ap so.length cp) so ∧ Below w.heap.size w Y)
        (fun v26 _ => l1.length - (intOf v26).toNat)
      case atStart => exact ⟨0, l0_0, l0_1, Ao, Ap, co, cp, by omega, rfl, DI, by rw [List.drop_zero]; exact HD.out, B1e.out, B2e.out, B6.out, h0'.out, h1'.out, HBX.out⟩
      case round =>
        clear DI B1e B2e B6 h0' h1' HBX
        obtain ⟨i, su, so, Xo, Xp, xo, xp, hi, rfl, hinv, hdo, hb1, hb2, hb6, hR, hS, hB⟩ := hrel
        have HB := Lib.hid hB
        have HB1 := Lib.hid hb1
        have HB2 := Lib.hid hb2
        have HB6 := Lib.hid hb6
        have HR := Lib.hid hR
        have HS := Lib.hid hS
        have HINV := Lib.hid hinv
        by_cases hlt : i < l1.length
        · rw [doL_at hlt] at hdo
          obtain ⟨ad, rfl, q0, q1, q2⟩ := at_T24 (Kd.C_below HR2.out hB) (i : Int) (by omega) (by omega)
          simp only [Int.toNat_natCast] at q0 q1 q2
          have hmem : rd_T24 l1 i ∈ l1 := by rw [rd24_get hlt]; exact List.getElem_mem _
          have hodd : oddB l0_0.length (rd_T24 l1 i) = false := by simpa using HANY.out _ hmem
          generalize rd_T24 l1 i = m at *
          obtain ⟨sy, bl, by_⟩ := m
          have HDO := Lib.hid hdo
          have HODD := Lib.hid hodd
          have kd0 : ∀ o : Obj, (wr.alloc o).cell? ⟨w.heap.size, 0, none⟩ = some (.slice A0_0 l0_0.length c0_0) := fun o => (blk_cell (bkA hb1 o) 0).trans rfl
          have kd1 : ∀ o : Obj, (wr.alloc o).cell? ⟨w.heap.size, 1, none⟩ = some (.slice A0_1 l0_1.length c0_1) := fun o => (blk_cell (bkA hb1 o) 1).trans rfl
          have k60 : ∀ o : Obj, (wr.alloc o).cell? ⟨g6, 0, none⟩ = some (.slice Xo su.length xo) := fun o => (blk_cell (bkA hb6 o) 0).trans rfl
          have k61 : ∀ o : Obj, (wr.alloc o).cell? ⟨g6, 1, none⟩ = some (.slice Xp so.length xp) := fun o => (blk_cell (bkA hb6 o) 1).trans rfl
          clear hB hb1 hb2 hb6 hR hS hinv hdo hmem hodd
          cases sy
          · by_cases hfull : (so.length : Int) = 3000
            · have hfb : ((so.length : Int) == 3000) = true := by simpa using hfull
              have hh := HDO.out
              rw [if_neg (by simp), if_pos hfull] at hh
              simp only [Prod.mk.injEq] at hh
              obtain ⟨rfl, rfl, rfl⟩ := hh
              clear HDO HD hfull
              go_wp2_with fail
              generalize hX : World.alloc wr _ = W3
              have HB1' := Lib.hid (show Below w.heap.size w W3 by rw [← hX]; exact below_alloc HB.out _)
              have B2 := Lib.hid (show W3.heap[w.heap.size + 1]? = some (.cells #[.slice none 0 0, .slice none 0 0] 30 (0, 0)) by rw [← hX]; exact bkA HB2.out _)
              clear hX HB1 k60 k61 kd0 kd1 hfb HB2 HB HB6 HR HS HINV
              have HB1 := HB1'
              clear HB1'
              have k0 := trivial
              have k1 := trivial
              refine (HOW.out W3 HB1.out).mono ?_
              rintro e W2 ⟨v0, v1, rfl, ho0, ho1, hb⟩
              have B3' := Lib.hid (blk_same B2.out hb)
              have HB2 := Lib.hid (HB1.out.trans (hb.mono HB1.out.size))
              obtain ⟨Ao, co, e0⟩ := Kd.R_slice ho0
              obtain ⟨Ap, cp, e1⟩ := Kd.R_slice ho1
              subst e0
              subst e1
              have h0 := Lib.hid (Kd.R_lower ho0 HB1.out.size)
              have h1 := Lib.hid (Kd.R_lower ho1 HB1.out.size)
              have j0 : W2.cell? ⟨w.heap.size + 1, 0, none⟩ = some (.slice none 0 0) := (blk_cell B3'.out 0).trans rfl
              have j1 : W2.cell? ⟨w.heap.size + 1, 1, none⟩ = some (.slice none 0 0) := (blk_cell B3'.out 1).trans rfl
              have f0 := blk_frozen B3'.out 0
              have f1 := blk_frozen B3'.out 1
              clear hb ho0 ho1 k0 k1
              go_wp2
              exact ret30 rfl rfl rfl B3'.out (by show w.heap.size ≤ w.heap.size + 1; omega) h0.out h1.out HB2.out _ rfl
            · have hfb : ((so.length : Int) == 3000) = false := by simpa using hfull
              have hh := HDO.out
              rw [if_neg (by simp), if_neg hfull] at hh
              have HDO2 := Lib.hid hh
              clear hh HDO
              have HTOK := trivial
              go_wp2_with (first
                | ((with_reducible refine gate_dst (N := 30) rfl ?_); have tk := HTOK; generalize hX : World.alloc wr _ = X3; have HX3 := Lib.hid (show Below wr.heap.size wr X3 by rw [← hX]; exact below_alloc (Below.refl _ _) _); have x8 := (show X3.heap[wr.heap.size]? = some (.cells #[.bool false, .int .i64 bl, .string by_] 24 (0, 0)) by rw [← hX]; exact heap_alloc_new wr _); clear hX HTOK tk k60 k61 kd0 kd1; have x6 := blk_same HB6.out HX3.out; have x1 := Lib.hid (blk_same HB1.out HX3.out); have x2 := Lib.hid (blk_same HB2.out HX3.out); have xR := Lib.hid (Kd.R_below HR.out HX3.out); have xS := Lib.hid (Kd.R_below HS.out HX3.out); have xB := Lib.hid (HB.out.trans (HX3.out.mono HB.out.size)); have kx : X3.cell? ⟨g6, 1, none⟩ = some (.slice Xp so.length xp) := (blk_cell x6 1).trans rfl; have c8a : X3.cell? ⟨wr.heap.size, 0, none⟩ = some (.bool false) := (blk_cell x8 0).trans rfl; have c8b : X3.cell? ⟨wr.heap.size, 1, none⟩ = some (.int .i64 bl) := (blk_cell x8 1).trans rfl; have c8c : X3.cell? ⟨wr.heap.size, 2, none⟩ = some (.string by_) := (blk_cell x8 2).trans rfl; clear x8; have x6 := Lib.hid x6)
                | ((with_reducible refine gate_builtin (b := .append) (xs := #[.tmp 31, .tmp 33]) rfl ?_); at_builtin; refine Kd.R_append k24 (w0 := w) w.heap.size rfl (.tmp 31) (.tmp 33) 28 24 (.agg #[(.bool false), (.int .i64 0), (.string ⟨#[]⟩)]) 32 rfl Try.underlying28 info24 rfl (by decide) (by omega) (.slice Xp so.length xp) so (⟨false, bl, by_⟩ : S24) [.bool false, .int .i64 bl, .string by_] (fun _ => True) (fun _ => False) rfl rfl ?aP (fun _ hk => hk.elim) ?aF ?aO ?aB ?aS ?aL ?_; (case aP => exact k24_mkM _ _ _ (⟨false, bl, by_⟩ : S24)); (case aF => exact (fun _ _ => trivial)); (case aO => exact xS.out); (case aB => exact xB.out); (case aS => exact xB.out.size); (case aL => have := HINV.out.few; omega); intro v1' W5 ho hb hg hat; obtain ⟨Yp, yp, e1⟩ := Kd.R_slice ho; subst e1; have y6 := blk_grown x6.out hg (Kd.R_ne xS.out x6.out (by decide)); have y1 := Lib.hid (blk_grown x1.out hg (Kd.R_ne xS.out x1.out (by decide))); have y2 := Lib.hid (blk_grown x2.out hg (Kd.R_ne xS.out x2.out (by decide))); have yR := Lib.hid (Kd.R_over xR.out xS.out (by decide) hg); have yS := Lib.hid ho; have yB := Lib.hid hb; have kk : W5.cell? ⟨g6, 1, none⟩ = some (.slice Xp so.length xp) := (blk_cell y6 1).trans rfl; have ff := blk_frozen y6 1; have y6 := Lib.hid y6; clear ho hb hg hat kx c8a c8b c8c))
              have hlen : (so ++ [(⟨false, bl, by_⟩ : S24)]).length = so.length + 1 := by simp
              go_roundw
              case rel => exact ⟨i + 1, su, so ++ [⟨false, bl, by_⟩], Xo, Yp, xo, yp, by omega, by simp, inv_app HINV.out HODD.out rfl (by omega), HDO2.out, blk_far y1.out (by show w.heap.size ≠ g6; omega) _, blk_far y2.out (by show w.heap.size + 1 ≠ g6; omega) _, by rw [hlen]; exact XB.put21 y6.out _, Kd.R_set yR.out y6.out (by decide) 1 _, Kd.R_set yS.out y6.out (by decide) 1 _, yB.out.setCell (by show w.heap.size ≤ g6; omega) _⟩
              case measure => simp [intOf]; omega
          · have hh := HDO.out
            rw [if_pos rfl] at hh
            have HDO2 := Lib.hid hh
            clear hh HDO
            go_wp2_with fail
            generalize hX : World.alloc wr _ = X3
            have HX3 := Lib.hid (show Below wr.heap.size wr X3 by rw [← hX]; exact below_alloc (Below.refl _ _) _)
            clear hX
            have hrr := Kd.R_reads' (Kd.R_below HR.out HX3.out)
            have hrs := Kd.R_reads' (Kd.R_below HS.out HX3.out)
            refine (settle_calls 52 #[] (fun _ => 64) Xo xo su Xp xp so X3 hrr.2.2 hrr.2.1 hrs.2.2 hrs.2.1 (by rw [HINV.out.len]; exact hl.1) (by have := HINV.out.few; omega) HINV.out.fits (fun _ => by omega) (fun _ _ => rfl) (fun i W _ _ => by simpa using all_calls i W)).mono ?_
            rintro e W5 ⟨v0, v1, rfl, ho0, ho1, hb⟩
            have hb5 := HX3.out.trans (hb.mono HX3.out.size)
            have hz : w.heap.size ≤ X3.heap.size := Nat.le_trans HB.out.size HX3.out.size
            obtain ⟨Yo, yo, e0⟩ := Kd.R_slice ho0
            obtain ⟨Yp, yp, e1⟩ := Kd.R_slice ho1
            subst e0
            subst e1
            have y6 := blk_same HB6.out hb5
            have y1 := Lib.hid (blk_same HB1.out hb5)
            have y2 := Lib.hid (blk_same HB2.out hb5)
            have yR := Lib.hid (Kd.R_lower ho0 hz)
            have yS := Lib.hid (Kd.R_lower ho1 hz)
            have yB := Lib.hid (HB.out.trans (hb5.mono HB.out.size))
            have ka : W5.cell? ⟨g6, 0, none⟩ = some (.slice Xo su.length xo) := (blk_cell y6 0).trans rfl
            have kb : W5.cell? ⟨g6, 1, none⟩ = some (.slice Xp so.length xp) := (blk_cell y6 1).trans rfl
            have fa := blk_frozen y6 0
            have fb := blk_frozen y6 1
            have y6 := Lib.hid y6
            clear ho0 ho1 hb hb5 hrr hrs k60 k61 kd0 kd1
            go_wp2
            go_roundw
            case rel => exact ⟨i + 1, fall su so (fun _ => 64) 0, [], Yo, Yp, yo, yp, by omega, by simp, inv_fall HINV.out, HDO2.out, blk_far (blk_far y1.out (by show w.heap.size ≠ g6; omega) _) (by show w.heap.size ≠ g6; omega) _, blk_far (blk_far y2.out (by show w.heap.size + 1 ≠ g6; omega) _) (by show w.heap.size + 1 ≠ g6; omega) _, XB.put21 (XB.put20 y6.out _) _, Kd.R_set (Kd.R_set yR.out y6.out (by decide) 0 _) (XB.put20 y6.out _) (by decide) 1 _, Kd.R_set (Kd.R_set yS.out y6.out (by decide) 0 _) (XB.put20 y6.out _) (by decide) 1 _, (yB.out.setCell (by show w.heap.size ≤ g6; omega) _).setCell (by show w.heap.size ≤ g6; omega) _⟩
            case measure => simp [intOf]; omega
        · obtain rfl : i = l1.length := by omega
          rw [List.drop_length] at hdo
          have hh : su = r1 ∧ so = r2 ∧ 0 = r3 := by
            have : (su, so, (0 : Int)) = (r1, r2, r3) := hdo
            simpa only [Prod.mk.injEq] using this
          obtain ⟨rfl, rfl, rfl⟩ := hh
          have k60 : wr.cell? ⟨g6, 0, none⟩ = some (.slice Xo su.length xo) := (blk_cell hb6 0).trans rfl
          have k61 : wr.cell? ⟨g6, 1, none⟩ = some (.slice Xp so.length xp) := (blk_cell hb6 1).trans rfl
          have j0 : wr.cell? ⟨w.heap.size + 1, 0, none⟩ = some (.slice none 0 0) := (blk_cell hb2 0).trans rfl
          have j1 : wr.cell? ⟨w.heap.size + 1, 1, none⟩ = some (.slice none 0 0) := (blk_cell hb2 1).trans rfl
          have f0 := blk_frozen hb2 0
          have f1 := blk_frozen hb2 1
          clear hB hb1 hb2 hb6 hR hS hinv hdo
          go_wp2
          exact ret30 rfl rfl rfl HB2.out (by show w.heap.size ≤ w.heap.size + 1; omega) HR.out HS.out HB.out _ rfl
    · have hn : ¬ (rightB l0_0 l0_1 = true ∧ l1.any (oddB l0_0.length) = false) := fun x => by rw [hany] at x; cases x.2
      rw [if_neg hn] at H
      simp only [Prod.mk.injEq] at H
      obtain ⟨rfl, rfl, rfl⟩ := H
      clear hb HS hn
      go_enter Try.func25, Try.ntmps25
      go_wp2_with fail
      generalize hU : World.alloc (World.alloc w _) _ = U
      obtain ⟨b1, b2⟩ : U.heap[w.heap.size]? = some (.cells #[.slice A0_0 l0_0.length c0_0, .slice A0_1 l0_1.length c0_1] 30 (0, 0)) ∧ U.heap[w.heap.size + 1]? = some (.cells #[.slice none 0 0, .slice none 0 0] 30 (0, 0)) := by rw [← hU]; exact ⟨heap_alloc2_old w _ _, heap_alloc2_new w _ _⟩
      have HB : Below w.heap.size w U := by rw [← hU]; exact below_alloc (below_alloc (Below.refl w.heap.size w) _) _
      clear hU
      refine (HRC.out U HB).mono ?_
      rintro e W1 ⟨rfl, hb⟩
      have b1' := blk_same b1 hb
      have B1 := Lib.hid b1'
      have B2 := Lib.hid (blk_same b2 hb)
      have HB1 := Lib.hid (HB.trans (hb.mono HB.size))
      have k0 : W1.cell? ⟨w.heap.size, 0, none⟩ = some (.slice A0_0 l0_0.length c0_0) := (blk_cell b1' 0).trans rfl
      have k1 : W1.cell? ⟨w.heap.size, 1, none⟩ = some (.slice A0_1 l0_1.length c0_1) := (blk_cell b1' 1).trans rfl
      clear b1 b2 b1' hb HB U
      go_wp2_with fail
      refine (oddF_calls l0_0.length _).mono ?_
      rintro e W2 ⟨rfl, hW2⟩
      have hb2 := (show Below W1.heap.size W1 W2 by rw [hW2]; exact below_alloc (Below.refl _ _) _)
      have hg := Lib.hid (show W2.heap[W1.heap.size]? = some (.cells #[.int .i64 l0_0.length] 3 (0, 0)) by rw [hW2]; exact heap_alloc_new _ _)
      have B1b := Lib.hid (blk_same B1.out hb2)
      have B2b := Lib.hid (blk_same B2.out hb2)
      have HB2 := Lib.hid (HB1.out.trans (hb2.mono HB1.out.size))
      clear hb2 hW2 B1 B2 HB1 k0 k1
      generalize W1.heap.size = g48 at *
      clear W1
      go_wp2_with fail
      refine (contains47_calls 73 #[.pointer (some ⟨g48, 0, none⟩)] (oddB l0_0.length) A1 c1 l1 _ (Kd.C_below HR2.out HB2.out) hc1 (Kd.C_max HR2.out) (fun _ _ => rfl) (fun x W hW => odd_calls x l0_0.length g48 _ W hg.out hW)).mono ?_
      rintro e W3 ⟨rfl, hb3⟩
      rw [hany]
      have b1' := blk_same B1b.out hb3
      have B2 := Lib.hid (blk_same B2b.out hb3)
      have HB1 := Lib.hid (HB2.out.trans (hb3.mono HB2.out.size))
      have k0 : W3.cell? ⟨w.heap.size, 0, none⟩ = some (.slice A0_0 l0_0.length c0_0) := (blk_cell b1' 0).trans rfl
      have k1 : W3.cell? ⟨w.heap.size, 1, none⟩ = some (.slice A0_1 l0_1.length c0_1) := (blk_cell b1' 1).trans rfl
      clear hb3 b1' hg B1b B2b HB2 hany
      go_wp2_with fail
      refine (HOW.out W3 HB1.out).mono ?_
      rintro e W2 ⟨v0, v1, rfl, ho0, ho1, hb⟩
      have B3' := Lib.hid (blk_same B2.out hb)
      have HB2 := Lib.hid (HB1.out.trans (hb.mono HB1.out.size))
      obtain ⟨Ao, co, e0⟩ := Kd.R_slice ho0
      obtain ⟨Ap, cp, e1⟩ := Kd.R_slice ho1
      subst e0
      subst e1
      have h0 := Lib.hid (Kd.R_lower ho0 HB1.out.size)
      have h1 := Lib.hid (Kd.R_lower ho1 HB1.out.size)
      have j0 : W2.cell? ⟨w.heap.size + 1, 0, none⟩ = some (.slice none 0 0) := (blk_cell B3'.out 0).trans rfl
      have j1 : W2.cell? ⟨w.heap.size + 1, 1, none⟩ = some (.slice none 0 0) := (blk_cell B3'.out 1).trans rfl
      have f0 := blk_frozen B3'.out 0
      have f1 := blk_frozen B3'.out 1
      clear hb ho0 ho1 k0 k1
      go_wp2
      exact ret30 rfl rfl rfl B3'.out (by show w.heap.size ≤ w.heap.size + 1; omega) h0.out h1.out HB2.out _ rfl
  · have hb' : rightB l0_0 l0_1 = false := by simpa using hb
    rw [if_neg (fun x => hb x.1)] at H
    rw [hb'] at HRC
    simp only [Prod.mk.injEq] at H
    obtain ⟨rfl, rfl, rfl⟩ := H
    clear hb hb'
    go_enter Try.func25, Try.ntmps25
    go_wp2_with fail
    generalize hU : World.alloc (World.alloc w _) _ = U
    obtain ⟨b1, b2⟩ : U.heap[w.heap.size]? = some (.cells #[.slice A0_0 l0_0.length c0_0, .slice A0_1 l0_1.length c0_1] 30 (0, 0)) ∧ U.heap[w.heap.size + 1]? = some (.cells #[.slice none 0 0, .slice none 0 0] 30 (0, 0)) := by rw [← hU]; exact ⟨heap_alloc2_old w _ _, heap_alloc2_new w _ _⟩
    have HB : Below w.heap.size w U := by rw [← hU]; exact below_alloc (below_alloc (Below.refl w.heap.size w) _) _
    clear hU
    refine (HRC.out U HB).mono ?_
    rintro e W1 ⟨rfl, hb⟩
    have b1' := blk_same b1 hb
    have B1 := Lib.hid b1'
    have B2 := Lib.hid (blk_same b2 hb)
    have HB1 := Lib.hid (HB.trans (hb.mono HB.size))
    have k0 : W1.cell? ⟨w.heap.size, 0, none⟩ = some (.slice A0_0 l0_0.length c0_0) := (blk_cell b1' 0).trans rfl
    have k1 : W1.cell? ⟨w.heap.size, 1, none⟩ = some (.slice A0_1 l0_1.length c0_1) := (blk_cell b1' 1).trans rfl
    clear b1 b2 b1' hb HB U
    go_wp2_with fail
    refine (HOW.out W1 HB1.out).mono ?_
    rintro e W2 ⟨v0, v1, rfl, ho0, ho1, hb⟩
    have B3' := Lib.hid (blk_same B2.out hb)
    have HB2 := Lib.hid (HB1.out.trans (hb.mono HB1.out.size))
    obtain ⟨Ao, co, e0⟩ := Kd.R_slice ho0
    obtain ⟨Ap, cp, e1⟩ := Kd.R_slice ho1
    subst e0
    subst e1
    have h0 := Lib.hid (Kd.R_lower ho0 HB1.out.size)
    have h1 := Lib.hid (Kd.R_lower ho1 HB1.out.size)
    have j0 : W2.cell? ⟨w.heap.size + 1, 0, none⟩ = some (.slice none 0 0) := (blk_cell B3'.out 0).trans rfl
    have j1 : W2.cell? ⟨w.heap.size + 1, 1, none⟩ = some (.slice none 0 0) := (blk_cell B3'.out 1).trans rfl
    have f0 := blk_frozen B3'.out 0
    have f1 := blk_frozen B3'.out 1
    clear hb ho0 ho1 k0 k1
    go_wp2
    exact ret30 rfl rfl rfl B3'.out (by show w.heap.size ≤ w.heap.size + 1; omega) h0.out h1.out HB2.out _ rfl
end Go.Proofs.Ytcfinlmocgbnbaa.Pr
end
section
namespace Go.Proofs
open Go.Shelf
open Go.RowKit in
def Try.lays169_ren : Go.Shelf.Ren := ⟨fun | 169 => 70 | n => n, fun | 70 => 101 | 9 => 9 | 0 => 0 | 72 => 103 | 37 => 49 | 127 => 128 | 3 => 3 | 5 => 5 | n => n, fun | n => n⟩
theorem Try.lays169 : Go.Proofs.Lays.n169 Try.prog Try.lays169_ren := {
  mixed := by kernel_rfl
  f169 := Try.func70.trans (congrArg some (by kernel_rfl))
  t0 := Try.underlying0
  a0 := Try.isAgg0
  z0 := Try.sizeOf0
  v0 := Try.zeroValue0
  t3 := Try.underlying3
  a3 := Try.isAgg3
  z3 := Try.sizeOf3
  v3 := Try.zeroValue3
  t9 := Try.underlying9
  a9 := Try.isAgg9
  z9 := Try.sizeOf9
  v9 := Try.zeroValue9
  t37 := Try.underlying49
  a37 := Try.isAgg49
  z37 := Try.sizeOf49
  v37 := Try.zeroValue49
  t70 := Try.underlying101
  a70 := Try.isAgg101
  z70 := Try.sizeOf101
  v70 := Try.zeroValue101
  t72 := Try.underlying103
  a72 := Try.isAgg103
  z72 := Try.sizeOf103
  v72 := Try.zeroValue103
  t127 := Try.underlying128
  a127 := Try.isAgg128
  z127 := Try.sizeOf128
  v127 := Try.zeroValue128 }
theorem Try.Builder_Extra_169 : Builder.Extra Try.prog Try.lays169_ren := {
  sizeBuilder := by kernel_rfl
  liesBuilder := by kernel_rfl
  t5 := Try.underlying5
  a5 := Try.isAgg5
  z5 := Try.sizeOf5
  v5 := Try.zeroValue5
  infoByte := by kernel_rfl
  cellsByte := by kernel_rfl
  sizeByte := by kernel_rfl
  neB5 := by decide }
open Go.RowKit in
open Go.RowKit in
open Go.RowKit in
open Go.RowKit in
open Go.RowKit in
open Go.RowKit in
open Go.RowKit in
open Go.RowKit in
open Go.RowKit in
open Go.RowKit in
open Go.RowKit in
open Go.RowKit in
theorem Try.Builder_String_any_k (B b : Nat) (l : List UInt8) (w : World) (h : Lib.IsBuilderF 103 5 B b (Lib.byteCells l) w) (hBw : B ≤ w.heap.size) :
    Calls Try.prog 70 #[.pointer (some ⟨b, 0, none⟩)] w fun e w' => e = .returned (.string ⟨l.toArray⟩) ∧ (Lib.IsBuilderF 103 5 B b (Lib.byteCells l) w' ∧ Below B w w' ∧ Lib.OthersKept 5 (some b) w w') := Any.Builder_String_any_k Try.lays169 Try.Builder_Extra_169 B b l w h hBw
open Go.RowKit in
open Go.RowKit in
open Go.RowKit Go.Lib in
open Go.RowKit Go.Lib in
open Go.RowKit Go.Lib in
open Go.RowKit Go.Lib in
def Try.lays105_ren : Go.Shelf.Ren := ⟨fun | 105 => 40 | 212 => 65 | 99 => 66 | 165 => 67 | 166 => 68 | 170 => 69 | 169 => 70 | 263 => 85 | 264 => 86 | 206 => 87 | 240 => 88 | 241 => 89 | 276 => 96 | 277 => 97 | n => n, fun | 9 => 9 | 3 => 3 | 4 => 4 | 20 => 20 | 0 => 0 | 46 => 97 | 109 => 98 | 5 => 5 | 72 => 103 | 76 => 107 | 51 => 122 | 146 => 123 | 53 => 125 | 148 => 126 | 70 => 101 | 37 => 49 | 75 => 106 | 127 => 128 | 164 => 133 | 80 => 90 | n => n, fun | n => n⟩
theorem Try.lays105 : Go.Proofs.Lays.n105 Try.prog Try.lays105_ren := {
  mixed := by kernel_rfl
  f99 := Try.func66.trans (congrArg some (by kernel_rfl))
  f105 := Try.func40.trans (congrArg some (by kernel_rfl))
  f165 := Try.func67.trans (congrArg some (by kernel_rfl))
  f166 := Try.func68.trans (congrArg some (by kernel_rfl))
  f169 := Try.func70.trans (congrArg some (by kernel_rfl))
  f170 := Try.func69.trans (congrArg some (by kernel_rfl))
  f206 := Try.func87.trans (congrArg some (by kernel_rfl))
  f212 := Try.func65.trans (congrArg some (by kernel_rfl))
  f240 := Try.func88.trans (congrArg some (by kernel_rfl))
  f241 := Try.func89.trans (congrArg some (by kernel_rfl))
  f263 := Try.func85.trans (congrArg some (by kernel_rfl))
  f264 := Try.func86.trans (congrArg some (by kernel_rfl))
  f276 := Try.func96.trans (congrArg some (by kernel_rfl))
  f277 := Try.func97.trans (congrArg some (by kernel_rfl))
  t0 := Try.underlying0
  a0 := Try.isAgg0
  z0 := Try.sizeOf0
  v0 := Try.zeroValue0
  t3 := Try.underlying3
  a3 := Try.isAgg3
  z3 := Try.sizeOf3
  v3 := Try.zeroValue3
  t4 := Try.underlying4
  a4 := Try.isAgg4
  z4 := Try.sizeOf4
  v4 := Try.zeroValue4
  t5 := Try.underlying5
  a5 := Try.isAgg5
  z5 := Try.sizeOf5
  v5 := Try.zeroValue5
  t9 := Try.underlying9
  a9 := Try.isAgg9
  z9 := Try.sizeOf9
  v9 := Try.zeroValue9
  t20 := Try.underlying20
  a20 := Try.isAgg20
  z20 := Try.sizeOf20
  v20 := Try.zeroValue20
  t37 := Try.underlying49
  a37 := Try.isAgg49
  z37 := Try.sizeOf49
  v37 := Try.zeroValue49
  t46 := Try.underlying97
  a46 := Try.isAgg97
  z46 := Try.sizeOf97
  v46 := Try.zeroValue97
  t51 := Try.underlying122
  a51 := Try.isAgg122
  z51 := Try.sizeOf122
  v51 := Try.zeroValue122
  t53 := Try.underlying125
  a53 := Try.isAgg125
  z53 := Try.sizeOf125
  v53 := Try.zeroValue125
  t70 := Try.underlying101
  a70 := Try.isAgg101
  z70 := Try.sizeOf101
  v70 := Try.zeroValue101
  t72 := Try.underlying103
  a72 := Try.isAgg103
  z72 := Try.sizeOf103
  v72 := Try.zeroValue103
  t75 := Try.underlying106
  a75 := Try.isAgg106
  z75 := Try.sizeOf106
  v75 := Try.zeroValue106
  t76 := Try.underlying107
  a76 := Try.isAgg107
  z76 := Try.sizeOf107
  v76 := Try.zeroValue107
  t109 := Try.underlying98
  a109 := Try.isAgg98
  z109 := Try.sizeOf98
  v109 := Try.zeroValue98
  t127 := Try.underlying128
  a127 := Try.isAgg128
  z127 := Try.sizeOf128
  v127 := Try.zeroValue128
  t146 := Try.underlying123
  a146 := Try.isAgg123
  z146 := Try.sizeOf123
  v146 := Try.zeroValue123
  t148 := Try.underlying126
  a148 := Try.isAgg126
  z148 := Try.sizeOf126
  v148 := Try.zeroValue126
  t164 := Try.underlying133
  a164 := Try.isAgg133
  z164 := Try.sizeOf133
  v164 := Try.zeroValue133 }
theorem Try.Builder_Extra_105 : Builder.Extra Try.prog Try.lays105_ren := {
  sizeBuilder := by kernel_rfl
  liesBuilder := by kernel_rfl
  t5 := Try.underlying5
  a5 := Try.isAgg5
  z5 := Try.sizeOf5
  v5 := Try.zeroValue5
  infoByte := by kernel_rfl
  cellsByte := by kernel_rfl
  sizeByte := by kernel_rfl
  neB5 := by decide }
open Go.RowKit Go.Lib in
open Go.RowKit Go.Lib in
open Go.RowKit Go.Lib in
open Go.RowKit Go.Lib in
open Go.RowKit Go.Lib in
open Go.RowKit Go.Lib in
open Go.RowKit Go.Lib in
theorem Try.strings_Repeat (s : ByteArray) (c : Nat) (w : World) (hc : c ≤ 9223372036854775807) (hlen : s.size * c ≤ 140737488355328) :
    Calls Try.prog 40 #[.string s, .int .i64 c] w fun e w' => e = .returned (.string ⟨(Lib.repeatL s.data.toList c).toArray⟩) ∧ Below w.heap.size w w' := Any.strings_Repeat Try.lays105 Try.Builder_Extra_105 s c w hc hlen
end Go.Proofs
end
section
namespace Go.Proofs.Ytcfinlmocgbnbaa.Pr
open Go.Proofs.Ytcfinlmocgbnbaa.Sq Go.RowKit Go.Shelf Go.Proofs.Ytcfinlmocgbnbaa.XB Go.Proofs.YtcfinlmocgbnbaaW.PrintWords Go.Proofs.YtcfinlmocgbnbaaW.PrintLast Go.Proofs.YtcfinlmocgbnbaaW.PrintMore
attribute [local go_sem] Oper.semAt_some
set_option linter.unusedVariables false
set_option linter.unusedSimpArgs false
def slicesRepeat.T9 : Bool × List (List Nat × List Nat) := (true, [([], []), ([], []), ([], []), ([1, 2], [1, 2]), ([], []), ([], []), ([4, 5], [4, 5]), ([3, 6], [3, 6]), ([0, 7], [0, 7]), ([8, 7, 0, 1, 2, 3, 4, 5, 6, 7, 8], [0, 2, 5, 8])])
def slicesRepeat.B9 : List Nat := [0, 0, 0, 6, 0, 0, 48, 126, 255, 511]
theorem slicesRepeat.tab9 : rtab .any (opsOf Try.f39 9) = slicesRepeat.T9 := by kernel_rfl
theorem slicesRepeat.bits9 : waitsOk slicesRepeat.T9.2 slicesRepeat.B9 = true := by kernel_rfl
def blank : ByteArray := ⟨(List.replicate 64 (0 : UInt8)).toArray⟩
theorem blank_size : blank.size = 64 := rfl
theorem repL_one (x : UInt8) : ∀ c : Nat, Lib.repeatL [x] c = List.replicate c x
  | 0 => rfl
  | c + 1 => by rw [List.replicate_succ, ← repL_one x c]; rfl
theorem blank_calls (w : World) : Calls Try.prog 40 #[.string ⟨#[0]⟩, .int .i64 64] w fun e w' => e = .returned (.string blank) ∧ Below w.heap.size w w' := by
  have h := Try.strings_Repeat ⟨#[0]⟩ 64 w (by omega) (by show 1 * 64 ≤ _; omega)
  have e : (⟨(Lib.repeatL (⟨#[0]⟩ : ByteArray).data.toList 64).toArray⟩ : ByteArray) = blank := by
    show (⟨(Lib.repeatL [0] 64).toArray⟩ : ByteArray) = blank
    rw [repL_one]
    rfl
  rw [e] at h
  exact h
def newB (n : Int) : List ByteArray × List S24 × Int := if 1 ≤ n ∧ n ≤ 400 then (List.replicate n.toNat blank, [], 0) else ([], [], 1)
end Go.Proofs.Ytcfinlmocgbnbaa.Pr
end
section
namespace Go.Proofs.Ytcfinlmocgbnbaa.Pr
open Go.RowKit Go.Shelf Go.Proofs.Ytcfinlmocgbnbaa.XB Go.Proofs.YtcfinlmocgbnbaaW.PrintWords
set_option linter.unusedVariables false
set_option linter.unusedSimpArgs false
def vault_blank.f : Option ByteArray := some blank
set_option maxRecDepth 100000 in
theorem vault_blank.calls (r : ByteArray) (w : World) (h : vault_blank.f = some r) : Calls Try.prog 57 #[] w fun e w' => e = .returned (.string r) ∧ Below w.heap.size w w' := by
  obtain rfl := Option.some.inj h
  go_enter Try.func57, Try.ntmps57
  go_wp2_with fail
  refine (blank_calls w).mono ?_
  rintro e W1 ⟨rfl, hb⟩
  go_wp2_with fail
  go_ret
  exact ⟨rfl, hb⟩
def num : List UInt8 → Nat → Nat
  | [], n => n
  | b :: l, n => num l (256 * n + b.toNat)
theorem num_ge : ∀ (l : List UInt8) (n : Nat), n ≤ num l n
  | [], n => Nat.le_refl _
  | b :: l, n => by have := num_ge l (256 * n + b.toNat); simp only [num]; omega
theorem or_byte (n b : Nat) (hb : b < 256) (h : 256 * n + b < 9223372036854775808) : Go.bits .or .i64 (wrap64 ((n : Int) * 256)) (b : Int) = ((256 * n + b : Nat) : Int) := by
  have e : wrap64 ((n : Int) * 256) = ((n * 256 : Nat) : Int) := by unfold wrap64; omega
  rw [e]
  have h1 : (BitVec.ofInt 64 ((n * 256 : Nat) : Int)).toNat = n * 256 := by
    rw [BitVec.ofInt_natCast, BitVec.toNat_ofNat]; exact Nat.mod_eq_of_lt (by omega)
  have h2 : (BitVec.ofInt 64 (b : Int)).toNat = b := by
    rw [BitVec.ofInt_natCast, BitVec.toNat_ofNat]; exact Nat.mod_eq_of_lt (by omega)
  have h3 : n * 256 ||| b = 256 * n + b := by
    rw [show n * 256 = 2 ^ 8 * n by omega, ← Nat.two_pow_add_eq_or_of_lt (show b < 2 ^ 8 from hb)]
  show IntKind.i64.wrap ((BitVec.ofInt 64 ((n * 256 : Nat) : Int) ||| BitVec.ofInt 64 (b : Int)).toNat : Int) = _
  rw [BitVec.toNat_or, h1, h2, h3, Go.Proofs.YtcfinlmocgbnbaaW.PrintLast.i64_w]
  unfold wrap64
  omega
def vault_take_int.f (s : ByteArray) : Option Int := if num s.data.toList 0 < 9223372036854775808 ∧ s.size ≤ 1000 then some (num s.data.toList 0 : Nat) else none
set_option maxRecDepth 100000 in
theorem vault_take_int.calls (s : ByteArray) (r : Int) (w : World) (h : vault_take_int.f s = some r) : Calls Try.prog 80 #[.string s] w fun e w' => e = .returned (.int .i64 r) ∧ Below w.heap.size w w' := by
  unfold vault_take_int.f at h
  by_cases hc0 : num s.data.toList 0 < 9223372036854775808 ∧ s.size ≤ 1000
  rotate_left
  · rw [if_neg hc0] at h; cases h
  rw [if_pos hc0] at h
  obtain rfl := Option.some.inj h
  obtain ⟨hN, hs⟩ := hc0
  have kb := fun W => print_bytes (P := Try.prog) 9 49 5 Try.underlying9 Try.underlying49 Try.underlying5 s W
  go_enter Try.func80, Try.ntmps80
  go_wp2
  clear kb
  have hc := fun j hj => Lib.bytesWorld_cell w 5 s j hj
  have hb : Below w.heap.size w (Lib.bytesWorld w 5 s) := bytes_below (Below.refl _ _) (Nat.le_refl _) _ _
  generalize Lib.bytesWorld w 5 s = W at *
  go_loop [2, 8] (fun x i => ∃ k n : Nat, k ≤ s.size ∧ i = .int .i64 k ∧ x = .int .i64 (n : Int) ∧ num (s.data.toList.drop k) n = num s.data.toList 0) (fun _ i => s.size - (intOf i).toNat)
  case atStart => exact ⟨0, 0, Nat.zero_le _, rfl, rfl, rfl⟩
  case round =>
    obtain ⟨k, n, hk, rfl, rfl, hn⟩ := hrel
    have hl : s.data.toList.length = s.size := Array.length_toList
    by_cases hlt : k < s.size
    · have hck := hc k hlt
      have hb8 : (s.data.toList.getD k 0).toNat < 256 := (s.data.toList.getD k 0).toNat_lt
      rw [List.drop_eq_getElem_cons (by omega)] at hn
      have hg : s.data.toList.getD k 0 = s.data.toList[k]'(by omega) := by rw [List.getD_eq_getElem?_getD, List.getElem?_eq_getElem (by omega)]; rfl
      simp only [num] at hn
      rw [← hg] at hn
      have hge := num_ge (s.data.toList.drop (k + 1)) (256 * n + (s.data.toList.getD k 0).toNat)
      rw [hn] at hge
      generalize s.data.toList.getD k 0 = b at *
      have HN := Lib.hid hn
      have HG := Lib.hid hge
      have HBl := Lib.hid hb
      have HNN := Lib.hid hN
      clear hge hn hc hl hb hN hg
      go_wp2
      go_round
      case rel => exact ⟨k + 1, 256 * n + b.toNat, by omega, by go_num, by rw [or_byte n _ hb8 (by have := HG.out; have := HNN.out; omega)], HN.out⟩
      case measure => simp [intOf]; omega
    · obtain rfl : k = s.size := by omega
      rw [List.drop_eq_nil_of_le (by omega)] at hn
      simp only [num] at hn
      subst hn
      clear hc
      go_wp2
      go_ret
      exact ⟨rfl, hb⟩
end Go.Proofs.Ytcfinlmocgbnbaa.Pr
end
section
namespace Go.Proofs.Ytcfinlmocgbnbaa.Pr
open Go.Proofs.Ytcfinlmocgbnbaa.Sq Go.RowKit Go.Proofs.YtcfinlmocgbnbaaW.PrintWords Go.Proofs.YtcfinlmocgbnbaaW.PrintLast Go.Proofs.YtcfinlmocgbnbaaW.PrintMore
attribute [local go_sem] max2_int min2_int max_two min_two max_three min_three max_four min_four
set_option linter.unusedVariables false
set_option linter.unusedSimpArgs false
def vault_Format.f (k : Nat) (l0_0 : List ByteArray) (l0_1 : List (S24)) : Option (List ByteArray × (List (S24)) × Int × Int × Int × Int) := (vault_may.f l0_0 l0_1).bind fun tz3 => (if tz3 = true then ((vault_book_head.f k ([] : List ByteArray) ([] : List (S24)) 0 0 0).bind fun tz4 => ((vault_blank.f).bind fun tz5 => ((disk_Do.f l0_0 l0_1 (([(⟨false, 0, tz4⟩ : S24), (⟨false, 1, tz5⟩ : S24), (⟨true, 0, (⟨#[]⟩ : ByteArray)⟩ : S24)] : List (S24)))).bind fun btz9 => (some (btz9.1, btz9.2.1, 0, 0, 0, btz9.2.2))))) else ((vault_own.f l0_0 l0_1).bind fun btz17 => (some (btz17.1, btz17.2, 0, 0, 0, 1))))
def vault_Format.T3 : Bool × List (List Nat × List Nat) := (true, [([], []), ([], []), ([1], [1]), ([2], [2]), ([2], []), ([4], [4]), ([], []), ([3, 5, 6], [3, 5, 6]), ([0, 7, 4], [0, 7]), ([8], [8]), ([9], [9]), ([9], [9]), ([], []), ([12, 10, 8, 0, 1, 2, 3, 4, 5, 6, 7, 8, 9, 10, 12], [10, 12]), ([11, 13, 0, 1, 2, 3, 4, 5, 6, 7, 8, 9, 10, 11, 12, 13], [11])])
def vault_Format.B3 : List Nat := [0, 0, 2, 6, 6, 22, 0, 126, 255, 511, 1023, 1023, 0, 6143, 16383]
theorem vault_Format.tab3 : rtab .any (opsOf Try.f30 3) = vault_Format.T3 := by kernel_rfl
theorem vault_Format.bits3 : waitsOk vault_Format.T3.2 vault_Format.B3 = true := by kernel_rfl
set_option maxHeartbeats 8000000 in
set_option maxRecDepth 100000 in
theorem vault_Format.calls (k : Nat) (A0_0 : Option Addr) (c0_0 : Nat) (l0_0 : List ByteArray) (A0_1 : Option Addr) (c0_1 : Nat) (l0_1 : List (S24)) (r1 : List ByteArray) (r2 : List (S24)) (r3 : Int) (r4 : Int) (r5 : Int) (r6 : Int) (w : World) (hr0_0 : Kd.C Kd.string w A0_0 l0_0.length l0_0) (hc0_0 : l0_0.length ≤ c0_0) (hr0_1 : Kd.C k24 w A0_1 l0_1.length l0_1) (hc0_1 : l0_1.length ≤ c0_1) (h : vault_Format.f k l0_0 l0_1 = some (r1, r2, r3, r4, r5, r6)) :
  Calls Try.prog 30 #[.agg #[.slice A0_0 l0_0.length c0_0, .slice A0_1 l0_1.length c0_1]] w fun e w' => ∃ v0_ v1_ : Value, e = .returned (.tuple #[.agg #[v0_, v1_, .int .i64 r3, .int .i64 r4, .int .i64 r5], .int .i64 r6]) ∧ Kd.R Kd.string 9 w' w.heap.size (fun _ => True) v0_ r1 ∧ Kd.R k24 24 w' w.heap.size (fun _ => True) v1_ r2 ∧ Below w.heap.size w w' := by
 have hu30 := Try.underlying30
 have hu56 := Try.underlying56
 have hu89 := Try.underlying89
 have hu24 := Try.underlying24
 have HR0_0 := am hr0_0
 have HC0_0 := am hc0_0
 clear hr0_0 hc0_0
 have HR0_1 := am hr0_1
 have HC0_1 := am hc0_1
 clear hr0_1 hc0_1
 have HB := am (Below.refl w.heap.size w)
 have H : ((vault_may.f l0_0 l0_1).bind fun tz3 => (if tz3 = true then ((vault_book_head.f k ([] : List ByteArray) ([] : List (S24)) 0 0 0).bind fun tz4 => ((vault_blank.f).bind fun tz5 => ((disk_Do.f l0_0 l0_1 (([(⟨false, 0, tz4⟩ : S24), (⟨false, 1, tz5⟩ : S24), (⟨true, 0, (⟨#[]⟩ : ByteArray)⟩ : S24)] : List (S24)))).bind fun btz9 => (some (btz9.1, btz9.2.1, 0, 0, 0, btz9.2.2))))) else ((vault_own.f l0_0 l0_1).bind fun btz17 => (some (btz17.1, btz17.2, 0, 0, 0, 1))))) = some (r1, r2, r3, r4, r5, r6) := h
 clear h
 replace H := ob_ H
 obtain ⟨tz3, A20, H⟩ := H
 replace H : (if tz3 = true then ((vault_book_head.f k ([] : List ByteArray) ([] : List (S24)) 0 0 0).bind fun tz4 => ((vault_blank.f).bind fun tz5 => ((disk_Do.f l0_0 l0_1 (([(⟨false, 0, tz4⟩ : S24), (⟨false, 1, tz5⟩ : S24), (⟨true, 0, (⟨#[]⟩ : ByteArray)⟩ : S24)] : List (S24)))).bind fun btz9 => (some (btz9.1, btz9.2.1, 0, 0, 0, btz9.2.2))))) else ((vault_own.f l0_0 l0_1).bind fun btz17 => (some (btz17.1, btz17.2, 0, 0, 0, 1)))) = some (r1, r2, r3, r4, r5, r6) := H
 have A2 := Aside0.mk A20
 clear A20
 by_cases c3 : tz3 = true
 rotate_left
 ·replace c3 := Bool.eq_false_iff.mpr c3
  subst c3
  have H1 : ((vault_own.f l0_0 l0_1).bind fun btz17 => (some (btz17.1, btz17.2, 0, 0, 0, 1))) = some (r1, r2, r3, r4, r5, r6) := by rw [if_neg (show ¬ (false = true) by decide)] at H; exact H
  clear H
  have H := H1
  clear H1
  replace H := ob_ H
  obtain ⟨⟨tz17, tz20⟩, A290, H⟩ := H
  replace H : (some (tz17, tz20, 0, 0, 0, 1)) = some (r1, r2, r3, r4, r5, r6) := H
  have A29 := Aside0.mk A290
  clear A290
  simp only [Option.some.injEq, Prod.mk.injEq] at H
  obtain ⟨rfl, rfl, rfl, rfl, rfl, rfl⟩ := H
  go_enter Try.func30, Try.ntmps30
  go_wp2_with (first | ((with_reducible refine gate_dst (N := 1) rfl ?_); refine box_event ?hg (N := 1) ?hd (cs := #[.slice A0_0 l0_0.length c0_0, .slice A0_1 l0_1.length c0_1]) (t := 30) ?hr ?_; (case hd => rfl); (case hg => rfl); (case hr => first | (go_simp; done) | (go_simp; rfl)); intro gbz1 hg w30 hbox hb; have n0_ := am (below_step (pb HB) hb); have n1_ := am (hbox); have n2_ := ge_ hg (pb HB); have n3_ := ge_ hg (pb HB); clear HB; have HB := n0_; have BKz1 := n1_; have GWz1 := n2_; have GEz1 := n3_; clear n0_ n1_ n2_ n3_; clear hb hbox hg) | ((with_reducible refine gate_dst (N := 2) rfl ?_); refine box_event ?hg (N := 2) ?hd (cs := #[.slice none 0 0, .slice none 0 0, .int .i64 0, .int .i64 0, .int .i64 0]) (t := 56) ?hr ?_; (case hd => rfl); (case hg => rfl); (case hr => first | (go_simp; done) | (go_simp; rfl)); intro gbz2 hg w31 hbox hb; have n0_ := am (bkB (pk BKz1) hb); have n1_ := am (below_step (by repeat first | (with_reducible first | exact HB.out | apply ba | apply bn | apply bd | refine bs (by assumption) ?_) | exact HB.out) hb); have n2_ := am (hbox); have n3_ := ge_ hg (by repeat first | (with_reducible first | exact HB.out | apply ba | apply bn | apply bd | refine bs (by assumption) ?_) | exact HB.out); have n4_ := ge_ hg (by repeat first | (with_reducible first | exact HB.out | apply ba | apply bn | apply bd | refine bs (by assumption) ?_) | exact HB.out); have n5_ := nl_ hg BKz1; have n6_ := ng_ hg BKz1; clear BKz1; clear HB; have BKz1 := n0_; have HB := n1_; have BKz2 := n2_; have GWz2 := n3_; have GEz2 := n4_; have NBz1_z2 := n5_; have NBz2_z1 := n6_; clear n0_ n1_ n2_ n3_ n4_ n5_ n6_; clear hb hbox hg; have hnb32 := NBz1_z2.out; have hnc32 := NBz2_z1.out; obtain ⟨hcz33_0, hcz33_1⟩ := bc2 BKz1; obtain ⟨hfz33_0, hfz33_1⟩ := bf2 BKz1) | ((with_reducible refine gate_callee (f := 54) rfl ?_); refine goesL_ (some 7) rfl rfl Try.func54 (by kernel_rfl) rfl #[.agg #[.slice A0_0 l0_0.length c0_0, .slice A0_1 l0_1.length c0_1]] rfl (by (try simp only [List.map_toArray, List.map_cons, List.map_nil]) <;> rfl) ?_; (with_reducible refine (vault_may.calls _ _ l0_0 _ _ l0_1 false _ ?side1 ?side2 ?side3 ?side4 A2.out).mono ?_); (case side1 => repeat (first | exact (Kd.C_below HR0_0.out HB.out) | (with_reducible refine Kd.C_alloc ?_ _) | (with_reducible refine Kd.C_drewN ?_ _) | (with_reducible refine Kd.C_drew ?_))); (case side2 => exact HC0_0.out); (case side3 => repeat (first | exact (Kd.C_below HR0_1.out HB.out) | (with_reducible refine Kd.C_alloc ?_ _) | (with_reducible refine Kd.C_drewN ?_ _) | (with_reducible refine Kd.C_drew ?_))); (case side4 => exact HC0_1.out); rintro e w34 ⟨rfl, hb⟩; refine ⟨_, rfl, ?_⟩; have n0_ := am (bkB (pk BKz1) hb); have n1_ := am (bkB (pk BKz2) hb); have n2_ := am (below_step (by repeat first | (with_reducible first | exact HB.out | apply ba | apply bn | apply bd | refine bs (by assumption) ?_) | exact HB.out) hb); clear BKz1; clear BKz2; clear HB; have BKz1 := n0_; have BKz2 := n1_; have HB := n2_; clear n0_ n1_ n2_; obtain ⟨hcz35_0, hcz35_1⟩ := bc2 BKz1; obtain ⟨hfz35_0, hfz35_1⟩ := bf2 BKz1) | ((with_reducible refine gate_callee (f := 55) rfl ?_); refine goesL_ (some 10) rfl rfl Try.func55 (by kernel_rfl) rfl #[.agg #[.slice A0_0 l0_0.length c0_0, .slice A0_1 l0_1.length c0_1]] rfl (by (try simp only [List.map_toArray, List.map_cons, List.map_nil]) <;> rfl) ?_; (with_reducible refine (vault_own.calls _ _ l0_0 _ _ l0_1 tz17 tz20 _ ?side1 ?side2 ?side3 ?side4 A29.out).mono ?_); (case side1 => repeat (first | exact (Kd.C_below HR0_0.out HB.out) | (with_reducible refine Kd.C_alloc ?_ _) | (with_reducible refine Kd.C_drewN ?_ _) | (with_reducible refine Kd.C_drew ?_))); (case side2 => exact HC0_0.out); (case side3 => repeat (first | exact (Kd.C_below HR0_1.out HB.out) | (with_reducible refine Kd.C_alloc ?_ _) | (with_reducible refine Kd.C_drewN ?_ _) | (with_reducible refine Kd.C_drew ?_))); (case side4 => exact HC0_1.out); rintro e w36 ⟨vz18, vz21, rfl, ho0, ho1, hb⟩; refine ⟨_, rfl, ?_⟩; have n0_ := am (Kd.R_lower ho0 (below_size (by repeat first | (with_reducible first | exact HB.out | apply ba | apply bn | apply bd | refine bs (by assumption) ?_) | exact HB.out))); have n1_ := am (Kd.R_lower ho1 (below_size (by repeat first | (with_reducible first | exact HB.out | apply ba | apply bn | apply bd | refine bs (by assumption) ?_) | exact HB.out))); have n2_ := am (bkB (pk BKz1) hb); have n3_ := am (bkB (pk BKz2) hb); have n4_ := am (below_step (by repeat first | (with_reducible first | exact HB.out | apply ba | apply bn | apply bd | refine bs (by assumption) ?_) | exact HB.out) hb); clear BKz1; clear BKz2; clear HB; have HOz19 := n0_; have HOz22 := n1_; have BKz1 := n2_; have BKz2 := n3_; have HB := n4_; clear n0_ n1_ n2_ n3_ n4_; obtain ⟨Ao37, co37, eo37⟩ := Kd.R_slice HOz22.out; subst eo37; obtain ⟨Ao38, co38, eo38⟩ := Kd.R_slice HOz19.out; subst eo38; obtain ⟨hcz39_0, hcz39_1, hcz39_2, hcz39_3, hcz39_4⟩ := bc5 BKz2; obtain ⟨hfz39_0, hfz39_1, hfz39_2, hfz39_3, hfz39_4⟩ := bf5 BKz2))
  refine bodyPost_ret (results_ct rfl _ _ gbz2 56 #[.slice Ao38 tz17.length co38, .slice Ao37 tz20.length co37, .int .i64 0, .int .i64 0, .int .i64 0] (0, 0) _ rfl (by (with_reducible repeat (first | refine blk_drewN ?_ _ | refine bkD ?_ | refine bkA ?_ _)); apply bp5; exact pk BKz2) Try.underlying56 rfl (by kernel_rfl)) rfl ?_
  exact ⟨_, _, by first | rfl | (simp <;> rfl) | (simp [*] <;> rfl), by (with_reducible repeat first | apply ra | apply rn | apply rd); exact Kd.R_mono (rf5 (Kd.R_types HOz19.out BKz2.out (by decide)) (fun _ hk => hk.2)) (fun _ hk => trivial), by (with_reducible repeat first | apply ra | apply rn | apply rd); exact Kd.R_mono (rf5 (Kd.R_types HOz22.out BKz2.out (by decide)) (fun _ hk => hk.2)) (fun _ hk => trivial), by repeat first | (with_reducible first | exact HB.out | apply ba | apply bn | apply bd | refine bs (by assumption) ?_) | exact HB.out⟩
 subst c3
 have H1 : ((vault_book_head.f k ([] : List ByteArray) ([] : List (S24)) 0 0 0).bind fun tz4 => ((vault_blank.f).bind fun tz5 => ((disk_Do.f l0_0 l0_1 (([(⟨false, 0, tz4⟩ : S24), (⟨false, 1, tz5⟩ : S24), (⟨true, 0, (⟨#[]⟩ : ByteArray)⟩ : S24)] : List (S24)))).bind fun btz9 => (some (btz9.1, btz9.2.1, 0, 0, 0, btz9.2.2))))) = some (r1, r2, r3, r4, r5, r6) := by rw [if_pos rfl] at H; exact H
 clear H
 have H := H1
 clear H1
 replace H := ob_ H
 obtain ⟨tz4, A40, H⟩ := H
 replace H : ((vault_blank.f).bind fun tz5 => ((disk_Do.f l0_0 l0_1 (([(⟨false, 0, tz4⟩ : S24), (⟨false, 1, tz5⟩ : S24), (⟨true, 0, (⟨#[]⟩ : ByteArray)⟩ : S24)] : List (S24)))).bind fun btz9 => (some (btz9.1, btz9.2.1, 0, 0, 0, btz9.2.2)))) = some (r1, r2, r3, r4, r5, r6) := H
 have A4 := Aside0.mk A40
 clear A40
 replace H := ob_ H
 obtain ⟨tz5, A50, H⟩ := H
 replace H : ((disk_Do.f l0_0 l0_1 (([(⟨false, 0, tz4⟩ : S24), (⟨false, 1, tz5⟩ : S24), (⟨true, 0, (⟨#[]⟩ : ByteArray)⟩ : S24)] : List (S24)))).bind fun btz9 => (some (btz9.1, btz9.2.1, 0, 0, 0, btz9.2.2))) = some (r1, r2, r3, r4, r5, r6) := H
 have A5 := Aside0.mk A50
 clear A50
 obtain ⟨yz6, hyz6⟩ : ∃ y_ : List (S24), y_ = (([(⟨false, 0, tz4⟩ : S24), (⟨false, 1, tz5⟩ : S24), (⟨true, 0, (⟨#[]⟩ : ByteArray)⟩ : S24)] : List (S24))) := ⟨_, rfl⟩
 replace H : ((disk_Do.f l0_0 l0_1 yz6).bind fun btz9 => (some (btz9.1, btz9.2.1, 0, 0, 0, btz9.2.2))) = some (r1, r2, r3, r4, r5, r6) := by first | (rw [hyz6]; with_reducible exact H) | (have H2_ := (Option.bind_some _ _).symm.trans H; rw [hyz6]; with_reducible exact H2_) | (have H2_ := (Option.bind_some _ _).symm.trans H; with_reducible exact H2_) | with_reducible exact H | (rw [hyz6]; exact H) | exact H
 have Nyz6 := am hyz6
 clear hyz6
 replace H := ob_ H
 obtain ⟨⟨tz9, tz12, tz15⟩, A60, H⟩ := H
 replace H : (some (tz9, tz12, 0, 0, 0, tz15)) = some (r1, r2, r3, r4, r5, r6) := H
 have A6 := Aside0.mk A60
 clear A60
 simp only [Option.some.injEq, Prod.mk.injEq] at H
 obtain ⟨rfl, rfl, rfl, rfl, rfl, rfl⟩ := H
 go_enter Try.func30, Try.ntmps30
 try go_wp2_with (first | ((with_reducible refine gate_dst (N := 1) rfl ?_); refine box_event ?hg (N := 1) ?hd (cs := #[.slice A0_0 l0_0.length c0_0, .slice A0_1 l0_1.length c0_1]) (t := 30) ?hr ?_; (case hd => rfl); (case hg => rfl); (case hr => first | (go_simp; done) | (go_simp; rfl)); intro gbz1 hg w7 hbox hb; have n0_ := am (below_step (pb HB) hb); have n1_ := am (hbox); have n2_ := ge_ hg (pb HB); have n3_ := ge_ hg (pb HB); clear HB; have HB := n0_; have BKz1 := n1_; have GWz1 := n2_; have GEz1 := n3_; clear n0_ n1_ n2_ n3_; clear hb hbox hg) | ((with_reducible refine gate_dst (N := 2) rfl ?_); refine box_event ?hg (N := 2) ?hd (cs := #[.slice none 0 0, .slice none 0 0, .int .i64 0, .int .i64 0, .int .i64 0]) (t := 56) ?hr ?_; (case hd => rfl); (case hg => rfl); (case hr => first | (go_simp; done) | (go_simp; rfl)); intro gbz2 hg w8 hbox hb; have n0_ := am (bkB (pk BKz1) hb); have n1_ := am (below_step (by repeat first | (with_reducible first | exact HB.out | apply ba | apply bn | apply bd | refine bs (by assumption) ?_) | exact HB.out) hb); have n2_ := am (hbox); have n3_ := ge_ hg (by repeat first | (with_reducible first | exact HB.out | apply ba | apply bn | apply bd | refine bs (by assumption) ?_) | exact HB.out); have n4_ := ge_ hg (by repeat first | (with_reducible first | exact HB.out | apply ba | apply bn | apply bd | refine bs (by assumption) ?_) | exact HB.out); have n5_ := nl_ hg BKz1; have n6_ := ng_ hg BKz1; clear BKz1; clear HB; have BKz1 := n0_; have HB := n1_; have BKz2 := n2_; have GWz2 := n3_; have GEz2 := n4_; have NBz1_z2 := n5_; have NBz2_z1 := n6_; clear n0_ n1_ n2_ n3_ n4_ n5_ n6_; clear hb hbox hg; have hnb9 := NBz1_z2.out; have hnc9 := NBz2_z1.out; obtain ⟨hcz10_0, hcz10_1⟩ := bc2 BKz1; obtain ⟨hfz10_0, hfz10_1⟩ := bf2 BKz1) | ((with_reducible refine gate_callee (f := 54) rfl ?_); refine goesL_ (some 7) rfl rfl Try.func54 (by kernel_rfl) rfl #[.agg #[.slice A0_0 l0_0.length c0_0, .slice A0_1 l0_1.length c0_1]] rfl (by (try simp only [List.map_toArray, List.map_cons, List.map_nil]) <;> rfl) ?_; (with_reducible refine (vault_may.calls _ _ l0_0 _ _ l0_1 true _ ?side1 ?side2 ?side3 ?side4 A2.out).mono ?_); (case side1 => repeat (first | exact (Kd.C_below HR0_0.out HB.out) | (with_reducible refine Kd.C_alloc ?_ _) | (with_reducible refine Kd.C_drewN ?_ _) | (with_reducible refine Kd.C_drew ?_))); (case side2 => exact HC0_0.out); (case side3 => repeat (first | exact (Kd.C_below HR0_1.out HB.out) | (with_reducible refine Kd.C_alloc ?_ _) | (with_reducible refine Kd.C_drewN ?_ _) | (with_reducible refine Kd.C_drew ?_))); (case side4 => exact HC0_1.out); rintro e w11 ⟨rfl, hb⟩; refine ⟨_, rfl, ?_⟩; have n0_ := am (bkB (pk BKz1) hb); have n1_ := am (bkB (pk BKz2) hb); have n2_ := am (below_step (by repeat first | (with_reducible first | exact HB.out | apply ba | apply bn | apply bd | refine bs (by assumption) ?_) | exact HB.out) hb); clear BKz1; clear BKz2; clear HB; have BKz1 := n0_; have BKz2 := n1_; have HB := n2_; clear n0_ n1_ n2_; (try clear hi)))
 have n0_ := am (bkD BKz1.out)
 have n1_ := am (bkD BKz2.out)
 have n2_ := am (below_drew1 HB.out)
 clear BKz1 BKz2 HB; have BKz1 := n0_; have BKz2 := n1_; have HB := n2_; clear n0_ n1_ n2_
 refine start_ (n := 15) (S := fun w' => w'.cell? ⟨gbz1, 0, none⟩ = some (.slice A0_0 l0_0.length c0_0) ∧ w'.cell? ⟨gbz1, 1, none⟩ = some (.slice A0_1 l0_1.length c0_1)) (ds := []) #[false, false, false, false, false, false, false, false, false, false, false, false, false, false, false] (by kernel_rfl) rfl rfl (bc2 BKz1) (fun hHeld => ?_); refine with_tabW vault_Format.tab3 vault_Format.bits3 (fun HT_ HW_ => ?_)
 generalize w11.drew = w12 at BKz1 BKz2 HB hHeld ⊢
 refine pu_ 1 (some 14) HT_ rfl rfl (.inl ⟨by rfl, by intro w'; go_simp; with_reducible rfl⟩) (by simp only [Act.put, sa_, s0_, s1_, i64_w, i32_w]; rfl) ?_
 refine pu_ 6 (some 19) HT_ rfl rfl (.inl ⟨by rfl, by intro w'; go_simp; with_reducible rfl⟩) (by simp only [Act.put, sa_, s0_, s1_, i64_w, i32_w]; rfl) ?_
 refine tk_ 0 (some 13) HT_ HW_ rfl rfl (.inl ⟨by rfl, by rintro w' ⟨s0, s1⟩; go_simp; with_reducible rfl⟩) hHeld (by simp only [Act.put, sa_, s0_, s1_, i64_w, i32_w]; rfl) ?_
 refine join_ (σ := Value × Value × Value × Nat) 2 #[true, true, true, true, true, true, true, true, true, true, true, true, true, false, false] (fun s_ => [(15, .string tz4), (17, .string tz5), (20, s_.1), (21, .tuple #[.agg #[s_.2.1, s_.2.2.1], .int .i64 tz15]), (4, .pointer (some ⟨s_.2.2.2, 0, none⟩)), (16, .agg #[.bool false, .int .i64 0, .string tz4]), (18, .agg #[.bool false, .int .i64 1, .string tz5]), (12, .tuple #[.agg #[s_.2.1, s_.2.2.1], .int .i64 tz15]), (22, .agg #[s_.2.1, s_.2.2.1]), (23, .int .i64 tz15)]) (fun s_ w' => (w'.cell? ⟨gbz1, 0, none⟩ = some (.slice A0_0 l0_0.length c0_0) ∧ w'.cell? ⟨gbz1, 1, none⟩ = some (.slice A0_1 l0_1.length c0_1)) ∧ (Kd.R k24 24 w' w.heap.size (fun k_ => some k_ ≠ (s_.2.2.1 : Value).ownBlock) s_.1 yz6) ∧ (Kd.R Kd.string 9 w' w.heap.size (fun _ => True) s_.2.1 tz9) ∧ (Kd.R k24 24 w' w.heap.size (fun k_ => some k_ ≠ (s_.1 : Value).ownBlock) s_.2.2.1 tz12) ∧ (w'.heap[gbz1]? = some (.cells #[.slice A0_0 l0_0.length c0_0, .slice A0_1 l0_1.length c0_1] 30 (0, 0))) ∧ (w'.heap[gbz2]? = some (.cells #[.slice none 0 0, .slice none 0 0, .int .i64 0, .int .i64 0, .int .i64 0] 56 (0, 0))) ∧ (w'.heap[s_.2.2.2]? = some (.cells #[.slice none 0 0, .slice none 0 0] 30 (0, 0))) ∧ (w.heap.size ≤ s_.2.2.2) ∧ (w.heap.size ≤ s_.2.2.2) ∧ (gbz1 ≠ s_.2.2.2) ∧ (s_.2.2.2 ≠ gbz1) ∧ (gbz2 ≠ s_.2.2.2) ∧ (s_.2.2.2 ≠ gbz2) ∧ (Below w.heap.size w w')) ?_ ?_
 rotate_left
 ·intro hJ2_4_7_8_12
  refine join_ (σ := Value × Value × Value) 3 #[true, true, true, true, true, true, true, true, true, true, true, true, false, false, false] (fun s_ => [(15, .string tz4), (17, .string tz5), (20, s_.1), (21, .tuple #[.agg #[s_.2.1, s_.2.2], .int .i64 tz15]), (16, .agg #[.bool false, .int .i64 0, .string tz4]), (18, .agg #[.bool false, .int .i64 1, .string tz5]), (12, .tuple #[.agg #[s_.2.1, s_.2.2], .int .i64 tz15]), (22, .agg #[s_.2.1, s_.2.2]), (23, .int .i64 tz15)]) (fun s_ w' => (w'.cell? ⟨gbz1, 0, none⟩ = some (.slice A0_0 l0_0.length c0_0) ∧ w'.cell? ⟨gbz1, 1, none⟩ = some (.slice A0_1 l0_1.length c0_1)) ∧ (Kd.R k24 24 w' w.heap.size (fun k_ => some k_ ≠ (s_.2.2 : Value).ownBlock) s_.1 yz6) ∧ (Kd.R Kd.string 9 w' w.heap.size (fun _ => True) s_.2.1 tz9) ∧ (Kd.R k24 24 w' w.heap.size (fun k_ => some k_ ≠ (s_.1 : Value).ownBlock) s_.2.2 tz12) ∧ (w'.heap[gbz1]? = some (.cells #[.slice A0_0 l0_0.length c0_0, .slice A0_1 l0_1.length c0_1] 30 (0, 0))) ∧ (w'.heap[gbz2]? = some (.cells #[.slice none 0 0, .slice none 0 0, .int .i64 0, .int .i64 0, .int .i64 0] 56 (0, 0))) ∧ (Below w.heap.size w w')) ?_ ?_
  rotate_left
  ·intro hJ2_4_7_8
   refine join_ (σ := Value × Nat) 6 #[true, true, true, true, true, true, true, true, false, false, false, false, true, false, false] (fun s_ => [(15, .string tz4), (17, .string tz5), (20, s_.1), (4, .pointer (some ⟨s_.2, 0, none⟩)), (16, .agg #[.bool false, .int .i64 0, .string tz4]), (18, .agg #[.bool false, .int .i64 1, .string tz5])]) (fun s_ w' => (w'.cell? ⟨gbz1, 0, none⟩ = some (.slice A0_0 l0_0.length c0_0) ∧ w'.cell? ⟨gbz1, 1, none⟩ = some (.slice A0_1 l0_1.length c0_1)) ∧ (Kd.R k24 24 w' w.heap.size (fun _ => True) s_.1 yz6) ∧ (w'.heap[gbz1]? = some (.cells #[.slice A0_0 l0_0.length c0_0, .slice A0_1 l0_1.length c0_1] 30 (0, 0))) ∧ (w'.heap[gbz2]? = some (.cells #[.slice none 0 0, .slice none 0 0, .int .i64 0, .int .i64 0, .int .i64 0] 56 (0, 0))) ∧ (w'.heap[s_.2]? = some (.cells #[.slice none 0 0, .slice none 0 0] 30 (0, 0))) ∧ (w.heap.size ≤ s_.2) ∧ (w.heap.size ≤ s_.2) ∧ (gbz1 ≠ s_.2) ∧ (s_.2 ≠ gbz1) ∧ (gbz2 ≠ s_.2) ∧ (s_.2 ≠ gbz2) ∧ (Below w.heap.size w w')) ?_ ?_
   rotate_left
   ·intro hJ2_4_7_12
    refine join_ (σ := Value) 7 #[true, true, true, true, true, true, true, true, false, false, false, false, false, false, false] (fun s_ => [(15, .string tz4), (17, .string tz5), (20, s_), (16, .agg #[.bool false, .int .i64 0, .string tz4]), (18, .agg #[.bool false, .int .i64 1, .string tz5])]) (fun s_ w' => (w'.cell? ⟨gbz1, 0, none⟩ = some (.slice A0_0 l0_0.length c0_0) ∧ w'.cell? ⟨gbz1, 1, none⟩ = some (.slice A0_1 l0_1.length c0_1)) ∧ (Kd.R k24 24 w' w.heap.size (fun _ => True) s_ yz6) ∧ (w'.heap[gbz1]? = some (.cells #[.slice A0_0 l0_0.length c0_0, .slice A0_1 l0_1.length c0_1] 30 (0, 0))) ∧ (w'.heap[gbz2]? = some (.cells #[.slice none 0 0, .slice none 0 0, .int .i64 0, .int .i64 0, .int .i64 0] 56 (0, 0))) ∧ (Below w.heap.size w w')) ?_ ?_
    rotate_left
    ·intro hJ2_4_7
     refine join_ (σ := Nat) 7 #[true, true, true, true, true, true, true, false, false, false, false, false, true, false, false] (fun s_ => [(15, .string tz4), (17, .string tz5), (4, .pointer (some ⟨s_, 0, none⟩)), (16, .agg #[.bool false, .int .i64 0, .string tz4]), (18, .agg #[.bool false, .int .i64 1, .string tz5])]) (fun s_ w' => (w'.cell? ⟨gbz1, 0, none⟩ = some (.slice A0_0 l0_0.length c0_0) ∧ w'.cell? ⟨gbz1, 1, none⟩ = some (.slice A0_1 l0_1.length c0_1)) ∧ (w'.heap[gbz1]? = some (.cells #[.slice A0_0 l0_0.length c0_0, .slice A0_1 l0_1.length c0_1] 30 (0, 0))) ∧ (w'.heap[gbz2]? = some (.cells #[.slice none 0 0, .slice none 0 0, .int .i64 0, .int .i64 0, .int .i64 0] 56 (0, 0))) ∧ (w'.heap[s_]? = some (.cells #[.slice none 0 0, .slice none 0 0] 30 (0, 0))) ∧ (w.heap.size ≤ s_) ∧ (w.heap.size ≤ s_) ∧ (gbz1 ≠ s_) ∧ (s_ ≠ gbz1) ∧ (gbz2 ≠ s_) ∧ (s_ ≠ gbz2) ∧ (Below w.heap.size w w')) ?_ ?_
     rotate_left
     ·intro hJ2_4_12
      refine join_ (σ := Unit) 8 #[true, true, true, true, true, true, true, false, false, false, false, false, false, false, false] (fun s_ => [(15, .string tz4), (17, .string tz5), (16, .agg #[.bool false, .int .i64 0, .string tz4]), (18, .agg #[.bool false, .int .i64 1, .string tz5])]) (fun s_ w' => (w'.cell? ⟨gbz1, 0, none⟩ = some (.slice A0_0 l0_0.length c0_0) ∧ w'.cell? ⟨gbz1, 1, none⟩ = some (.slice A0_1 l0_1.length c0_1)) ∧ (w'.heap[gbz1]? = some (.cells #[.slice A0_0 l0_0.length c0_0, .slice A0_1 l0_1.length c0_1] 30 (0, 0))) ∧ (w'.heap[gbz2]? = some (.cells #[.slice none 0 0, .slice none 0 0, .int .i64 0, .int .i64 0, .int .i64 0] 56 (0, 0))) ∧ (Below w.heap.size w w')) ?_ ?_
      rotate_left
      ·intro hJ2_4
       refine join_ (σ := Nat) 9 #[true, true, true, true, false, false, true, false, false, false, false, false, true, false, false] (fun s_ => [(15, .string tz4), (4, .pointer (some ⟨s_, 0, none⟩)), (16, .agg #[.bool false, .int .i64 0, .string tz4])]) (fun s_ w' => (w'.cell? ⟨gbz1, 0, none⟩ = some (.slice A0_0 l0_0.length c0_0) ∧ w'.cell? ⟨gbz1, 1, none⟩ = some (.slice A0_1 l0_1.length c0_1)) ∧ (w'.heap[gbz1]? = some (.cells #[.slice A0_0 l0_0.length c0_0, .slice A0_1 l0_1.length c0_1] 30 (0, 0))) ∧ (w'.heap[gbz2]? = some (.cells #[.slice none 0 0, .slice none 0 0, .int .i64 0, .int .i64 0, .int .i64 0] 56 (0, 0))) ∧ (w'.heap[s_]? = some (.cells #[.slice none 0 0, .slice none 0 0] 30 (0, 0))) ∧ (w.heap.size ≤ s_) ∧ (w.heap.size ≤ s_) ∧ (gbz1 ≠ s_) ∧ (s_ ≠ gbz1) ∧ (gbz2 ≠ s_) ∧ (s_ ≠ gbz2) ∧ (Below w.heap.size w w')) ?_ ?_
       rotate_left
       ·intro hJ2_12
        refine join_ (σ := Unit) 10 #[true, true, true, true, false, false, true, false, false, false, false, false, false, false, false] (fun s_ => [(15, .string tz4), (16, .agg #[.bool false, .int .i64 0, .string tz4])]) (fun s_ w' => (w'.cell? ⟨gbz1, 0, none⟩ = some (.slice A0_0 l0_0.length c0_0) ∧ w'.cell? ⟨gbz1, 1, none⟩ = some (.slice A0_1 l0_1.length c0_1)) ∧ (w'.heap[gbz1]? = some (.cells #[.slice A0_0 l0_0.length c0_0, .slice A0_1 l0_1.length c0_1] 30 (0, 0))) ∧ (w'.heap[gbz2]? = some (.cells #[.slice none 0 0, .slice none 0 0, .int .i64 0, .int .i64 0, .int .i64 0] 56 (0, 0))) ∧ (Below w.heap.size w w')) ?_ ?_
        rotate_left
        ·intro hJ2
         refine join_ (σ := Nat) 11 #[true, true, false, false, false, false, true, false, false, false, false, false, true, false, false] (fun s_ => [(4, .pointer (some ⟨s_, 0, none⟩))]) (fun s_ w' => (w'.cell? ⟨gbz1, 0, none⟩ = some (.slice A0_0 l0_0.length c0_0) ∧ w'.cell? ⟨gbz1, 1, none⟩ = some (.slice A0_1 l0_1.length c0_1)) ∧ (w'.heap[gbz1]? = some (.cells #[.slice A0_0 l0_0.length c0_0, .slice A0_1 l0_1.length c0_1] 30 (0, 0))) ∧ (w'.heap[gbz2]? = some (.cells #[.slice none 0 0, .slice none 0 0, .int .i64 0, .int .i64 0, .int .i64 0] 56 (0, 0))) ∧ (w'.heap[s_]? = some (.cells #[.slice none 0 0, .slice none 0 0] 30 (0, 0))) ∧ (w.heap.size ≤ s_) ∧ (w.heap.size ≤ s_) ∧ (gbz1 ≠ s_) ∧ (s_ ≠ gbz1) ∧ (gbz2 ≠ s_) ∧ (s_ ≠ gbz2) ∧ (Below w.heap.size w w')) ?_ ?_
         rotate_left
         ·intro hJ12
          refine two_ (i := 2) (j := 12) (Ni := some 15) (Nj := some 4) #[true, true, true, false, false, false, true, false, false, false, false, false, false, false, false] #[true, true, false, false, false, false, true, false, false, false, false, false, true, false, false] rfl rfl rfl rfl (two_of HT_.out (by kernel_rfl)) (by decide) (by decide) (fun K hK => ?_) (fun K hK => ?_)
          ·skip
           refine goes_ Try.func56 (by kernel_rfl) rfl #[.agg #[.slice none 0 0, .slice none 0 0, .int .i64 0, .int .i64 0, .int .i64 0]] (by rfl) rfl rfl (by (try simp only [List.map_toArray, List.map_cons, List.map_nil]) <;> rfl) ?_
           refine (vault_book_head.calls k _ _ ([] : List ByteArray) _ _ ([] : List (S24)) 0 0 0 tz4 _ ?side1 ?side2 ?side3 ?side4 A4.out).mono ?_
           (case side1 => exact Kd.C_nil _ _)
           (case side2 => exact Nat.le_refl _)
           (case side3 => exact Kd.C_nil _ _)
           (case side4 => exact Nat.le_refl _)
           rintro e w13 ⟨rfl, hb⟩
           refine ⟨_, rfl, ?_⟩
           have n0_ := am (bkB (pk BKz1) hb)
           have n1_ := am (bkB (pk BKz2) hb)
           have n2_ := am (below_step (by repeat first | (with_reducible first | exact HB.out | apply ba | apply bn | apply bd | refine bs (by assumption) ?_) | exact HB.out) hb)
           clear BKz1 BKz2 HB; have BKz1 := n0_; have BKz2 := n1_; have HB := n2_; clear n0_ n1_ n2_; refine hK.out _ _ (bc2 BKz1) (fun hHeld => ?_)
           clear hK K
           refine norm_ (by show Act.put _ (some 15) _ = _; simp only [Act.put, sa_, s0_, s1_, i64_w, i32_w]; rfl) ?_
           refine pu_ 3 (some 16) HT_ rfl rfl (.inl ⟨by rfl, by intro w'; go_simp; with_reducible rfl⟩) (by simp only [Act.put, sa_, s0_, s1_, i64_w, i32_w]; rfl) ?_
           exact norm_ (by simp only [putAll, Act.put, sa_, s0_, s1_] <;> rfl) (hJ2 () _ ⟨hHeld, (pk BKz1), (pk BKz2), (by repeat first | (with_reducible first | exact HB.out | apply ba | apply bn | apply bd | refine bs (by assumption) ?_) | exact HB.out)⟩)
          skip
          refine box_step ?hg (N := 4) ?hd (cs := #[.slice none 0 0, .slice none 0 0]) (t := 30) ?hr ?_; (case hd => rfl); (case hg => rfl); (case hr => first | (go_simp; done) | (go_simp; rfl))
          intro gbz16 hg w13 hbox hb
          have n0_ := am (bkB (pk BKz1) hb)
          have n1_ := am (bkB (pk BKz2) hb)
          have n2_ := am (below_step (by repeat first | (with_reducible first | exact HB.out | apply ba | apply bn | apply bd | refine bs (by assumption) ?_) | exact HB.out) hb)
          have n3_ := am (hbox)
          have n4_ := ge_ hg (by repeat first | (with_reducible first | exact HB.out | apply ba | apply bn | apply bd | refine bs (by assumption) ?_) | exact HB.out)
          have n5_ := ge_ hg (by repeat first | (with_reducible first | exact HB.out | apply ba | apply bn | apply bd | refine bs (by assumption) ?_) | exact HB.out)
          have n6_ := nl_ hg BKz1
          have n7_ := ng_ hg BKz1
          have n8_ := nl_ hg BKz2
          have n9_ := ng_ hg BKz2
          clear BKz1 BKz2 HB; have BKz1 := n0_; have BKz2 := n1_; have HB := n2_; have BKz16 := n3_; have GWz16 := n4_; have GEz16 := n5_; have NBz1_z16 := n6_; have NBz16_z1 := n7_; have NBz2_z16 := n8_; have NBz16_z2 := n9_; clear n0_ n1_ n2_ n3_ n4_ n5_ n6_ n7_ n8_ n9_; clear hb hbox hg
          refine hK.out _ _ (bc2 BKz1) (fun hHeld => ?_)
          clear hK K
          refine norm_ (by show Act.put _ (some 4) _ = _; simp only [Act.put, sa_, s0_, s1_, i64_w, i32_w]; rfl) ?_
          exact norm_ (by simp only [putAll, Act.put, sa_, s0_, s1_] <;> rfl) (hJ12 (gbz16) _ ⟨hHeld, (pk BKz1), (pk BKz2), (pk BKz16), GWz16.out, GEz16.out, NBz1_z16.out, NBz16_z1.out, NBz2_z16.out, NBz16_z2.out, (by repeat first | (with_reducible first | exact HB.out | apply ba | apply bn | apply bd | refine bs (by assumption) ?_) | exact HB.out)⟩)
         ·skip
          rintro gbz16 w14 ⟨hS_, h0_, h1_, h2_, h3_, h4_, h5_, h6_, h7_, h8_, h9_⟩
          have n0_ : Aside0 (w14.heap[gbz1]? = some (.cells #[.slice A0_0 l0_0.length c0_0, .slice A0_1 l0_1.length c0_1] 30 (0, 0))) := ⟨h0_⟩
          have n1_ : Aside0 (w14.heap[gbz2]? = some (.cells #[.slice none 0 0, .slice none 0 0, .int .i64 0, .int .i64 0, .int .i64 0] 56 (0, 0))) := ⟨h1_⟩
          have n2_ : Aside0 (w14.heap[gbz16]? = some (.cells #[.slice none 0 0, .slice none 0 0] 30 (0, 0))) := ⟨h2_⟩
          have n3_ : Aside0 (w.heap.size ≤ gbz16) := ⟨h3_⟩
          have n4_ : Aside0 (w.heap.size ≤ gbz16) := ⟨h4_⟩
          have n5_ : Aside0 (gbz1 ≠ gbz16) := ⟨h5_⟩
          have n6_ : Aside0 (gbz16 ≠ gbz1) := ⟨h6_⟩
          have n7_ : Aside0 (gbz2 ≠ gbz16) := ⟨h7_⟩
          have n8_ : Aside0 (gbz16 ≠ gbz2) := ⟨h8_⟩
          have n9_ : Aside0 (Below w.heap.size w w14) := ⟨h9_⟩
          clear BKz1 BKz2 HB h0_ h1_ h2_ h3_ h4_ h5_ h6_ h7_ h8_ h9_; have BKz1 := n0_; have BKz2 := n1_; have BKz16 := n2_; have GWz16 := n3_; have GEz16 := n4_; have NBz1_z16 := n5_; have NBz16_z1 := n6_; have NBz2_z16 := n7_; have NBz16_z2 := n8_; have HB := n9_; clear n0_ n1_ n2_ n3_ n4_ n5_ n6_ n7_ n8_ n9_
          have hHeld : w14.cell? ⟨gbz1, 0, none⟩ = some (.slice A0_0 l0_0.length c0_0) ∧ w14.cell? ⟨gbz1, 1, none⟩ = some (.slice A0_1 l0_1.length c0_1) := hS_
          refine norm_ (by simp only [putAll, Act.put, List.setIfInBounds_toArray, List.set_cons_zero, List.set_cons_succ]; rfl) ?_
          refine on_ 2 (some 15) HT_ rfl rfl (fun K hK => ?_)
          refine goes_ Try.func56 (by kernel_rfl) rfl #[.agg #[.slice none 0 0, .slice none 0 0, .int .i64 0, .int .i64 0, .int .i64 0]] (by rfl) rfl rfl (by (try simp only [List.map_toArray, List.map_cons, List.map_nil]) <;> rfl) ?_
          refine (vault_book_head.calls k _ _ ([] : List ByteArray) _ _ ([] : List (S24)) 0 0 0 tz4 _ ?side1 ?side2 ?side3 ?side4 A4.out).mono ?_
          (case side1 => exact Kd.C_nil _ _)
          (case side2 => exact Nat.le_refl _)
          (case side3 => exact Kd.C_nil _ _)
          (case side4 => exact Nat.le_refl _)
          rintro e w15 ⟨rfl, hb⟩
          refine ⟨_, rfl, ?_⟩
          have n0_ := am (bkB (pk BKz1) hb)
          have n1_ := am (bkB (pk BKz2) hb)
          have n2_ := am (bkB (pk BKz16) hb)
          have n3_ := am (below_step (by repeat first | (with_reducible first | exact HB.out | apply ba | apply bn | apply bd | refine bs (by assumption) ?_) | exact HB.out) hb)
          clear BKz1 BKz2 BKz16 HB; have BKz1 := n0_; have BKz2 := n1_; have BKz16 := n2_; have HB := n3_; clear n0_ n1_ n2_ n3_; refine hK.out _ _ (bc2 BKz1) (fun hHeld => ?_)
          clear hK K
          refine norm_ (by show Act.put _ (some 15) _ = _; simp only [Act.put, sa_, s0_, s1_, i64_w, i32_w]; rfl) ?_
          refine pu_ 3 (some 16) HT_ rfl rfl (.inl ⟨by rfl, by intro w'; go_simp; with_reducible rfl⟩) (by simp only [Act.put, sa_, s0_, s1_, i64_w, i32_w]; rfl) ?_
          exact norm_ (by simp only [putAll, Act.put, sa_, s0_, s1_] <;> rfl) (hJ2_12 (gbz16) _ ⟨hHeld, (pk BKz1), (pk BKz2), (pk BKz16), GWz16.out, GEz16.out, NBz1_z16.out, NBz16_z1.out, NBz2_z16.out, NBz16_z2.out, (by repeat first | (with_reducible first | exact HB.out | apply ba | apply bn | apply bd | refine bs (by assumption) ?_) | exact HB.out)⟩)
        ·skip
         rintro _ w14 ⟨hS_, h0_, h1_, h2_⟩
         have n0_ : Aside0 (w14.heap[gbz1]? = some (.cells #[.slice A0_0 l0_0.length c0_0, .slice A0_1 l0_1.length c0_1] 30 (0, 0))) := ⟨h0_⟩
         have n1_ : Aside0 (w14.heap[gbz2]? = some (.cells #[.slice none 0 0, .slice none 0 0, .int .i64 0, .int .i64 0, .int .i64 0] 56 (0, 0))) := ⟨h1_⟩
         have n2_ : Aside0 (Below w.heap.size w w14) := ⟨h2_⟩
         clear BKz1 BKz2 HB h0_ h1_ h2_; have BKz1 := n0_; have BKz2 := n1_; have HB := n2_; clear n0_ n1_ n2_
         have hHeld : w14.cell? ⟨gbz1, 0, none⟩ = some (.slice A0_0 l0_0.length c0_0) ∧ w14.cell? ⟨gbz1, 1, none⟩ = some (.slice A0_1 l0_1.length c0_1) := hS_
         refine norm_ (by simp only [putAll, Act.put, List.setIfInBounds_toArray, List.set_cons_zero, List.set_cons_succ]; rfl) ?_
         refine two_ (i := 4) (j := 12) (Ni := some 17) (Nj := some 4) #[true, true, true, true, true, false, true, false, false, false, false, false, false, false, false] #[true, true, true, true, false, false, true, false, false, false, false, false, true, false, false] rfl rfl rfl rfl (two_of HT_.out (by kernel_rfl)) (by decide) (by decide) (fun K hK => ?_) (fun K hK => ?_)
         ·skip
          refine goes_ Try.func57 (by kernel_rfl) rfl #[] (by rfl) rfl rfl (by (try simp only [List.map_toArray, List.map_cons, List.map_nil]) <;> rfl) ?_
          with_reducible refine (vault_blank.calls  tz5 _ A5.out).mono ?_
          rintro e w15 ⟨rfl, hb⟩
          refine ⟨_, rfl, ?_⟩
          have n0_ := am (bkB (pk BKz1) hb)
          have n1_ := am (bkB (pk BKz2) hb)
          have n2_ := am (below_step (by repeat first | (with_reducible first | exact HB.out | apply ba | apply bn | apply bd | refine bs (by assumption) ?_) | exact HB.out) hb)
          clear BKz1 BKz2 HB; have BKz1 := n0_; have BKz2 := n1_; have HB := n2_; clear n0_ n1_ n2_; refine hK.out _ _ (bc2 BKz1) (fun hHeld => ?_)
          clear hK K
          refine norm_ (by show Act.put _ (some 17) _ = _; simp only [Act.put, sa_, s0_, s1_, i64_w, i32_w]; rfl) ?_
          refine pu_ 5 (some 18) HT_ rfl rfl (.inl ⟨by rfl, by intro w'; go_simp; with_reducible rfl⟩) (by simp only [Act.put, sa_, s0_, s1_, i64_w, i32_w]; rfl) ?_
          exact norm_ (by simp only [putAll, Act.put, sa_, s0_, s1_] <;> rfl) (hJ2_4 () _ ⟨hHeld, (pk BKz1), (pk BKz2), (by repeat first | (with_reducible first | exact HB.out | apply ba | apply bn | apply bd | refine bs (by assumption) ?_) | exact HB.out)⟩)
         skip
         refine box_step ?hg (N := 4) ?hd (cs := #[.slice none 0 0, .slice none 0 0]) (t := 30) ?hr ?_; (case hd => rfl); (case hg => rfl); (case hr => first | (go_simp; done) | (go_simp; rfl))
         intro gbz16 hg w15 hbox hb
         have n0_ := am (bkB (pk BKz1) hb)
         have n1_ := am (bkB (pk BKz2) hb)
         have n2_ := am (below_step (by repeat first | (with_reducible first | exact HB.out | apply ba | apply bn | apply bd | refine bs (by assumption) ?_) | exact HB.out) hb)
         have n3_ := am (hbox)
         have n4_ := ge_ hg (by repeat first | (with_reducible first | exact HB.out | apply ba | apply bn | apply bd | refine bs (by assumption) ?_) | exact HB.out)
         have n5_ := ge_ hg (by repeat first | (with_reducible first | exact HB.out | apply ba | apply bn | apply bd | refine bs (by assumption) ?_) | exact HB.out)
         have n6_ := nl_ hg BKz1
         have n7_ := ng_ hg BKz1
         have n8_ := nl_ hg BKz2
         have n9_ := ng_ hg BKz2
         clear BKz1 BKz2 HB; have BKz1 := n0_; have BKz2 := n1_; have HB := n2_; have BKz16 := n3_; have GWz16 := n4_; have GEz16 := n5_; have NBz1_z16 := n6_; have NBz16_z1 := n7_; have NBz2_z16 := n8_; have NBz16_z2 := n9_; clear n0_ n1_ n2_ n3_ n4_ n5_ n6_ n7_ n8_ n9_; clear hb hbox hg
         refine hK.out _ _ (bc2 BKz1) (fun hHeld => ?_)
         clear hK K
         refine norm_ (by show Act.put _ (some 4) _ = _; simp only [Act.put, sa_, s0_, s1_, i64_w, i32_w]; rfl) ?_
         exact norm_ (by simp only [putAll, Act.put, sa_, s0_, s1_] <;> rfl) (hJ2_12 (gbz16) _ ⟨hHeld, (pk BKz1), (pk BKz2), (pk BKz16), GWz16.out, GEz16.out, NBz1_z16.out, NBz16_z1.out, NBz2_z16.out, NBz16_z2.out, (by repeat first | (with_reducible first | exact HB.out | apply ba | apply bn | apply bd | refine bs (by assumption) ?_) | exact HB.out)⟩)
       ·skip
        rintro gbz16 w15 ⟨hS_, h0_, h1_, h2_, h3_, h4_, h5_, h6_, h7_, h8_, h9_⟩
        have n0_ : Aside0 (w15.heap[gbz1]? = some (.cells #[.slice A0_0 l0_0.length c0_0, .slice A0_1 l0_1.length c0_1] 30 (0, 0))) := ⟨h0_⟩
        have n1_ : Aside0 (w15.heap[gbz2]? = some (.cells #[.slice none 0 0, .slice none 0 0, .int .i64 0, .int .i64 0, .int .i64 0] 56 (0, 0))) := ⟨h1_⟩
        have n2_ : Aside0 (w15.heap[gbz16]? = some (.cells #[.slice none 0 0, .slice none 0 0] 30 (0, 0))) := ⟨h2_⟩
        have n3_ : Aside0 (w.heap.size ≤ gbz16) := ⟨h3_⟩
        have n4_ : Aside0 (w.heap.size ≤ gbz16) := ⟨h4_⟩
        have n5_ : Aside0 (gbz1 ≠ gbz16) := ⟨h5_⟩
        have n6_ : Aside0 (gbz16 ≠ gbz1) := ⟨h6_⟩
        have n7_ : Aside0 (gbz2 ≠ gbz16) := ⟨h7_⟩
        have n8_ : Aside0 (gbz16 ≠ gbz2) := ⟨h8_⟩
        have n9_ : Aside0 (Below w.heap.size w w15) := ⟨h9_⟩
        clear BKz1 BKz2 HB h0_ h1_ h2_ h3_ h4_ h5_ h6_ h7_ h8_ h9_; have BKz1 := n0_; have BKz2 := n1_; have BKz16 := n2_; have GWz16 := n3_; have GEz16 := n4_; have NBz1_z16 := n5_; have NBz16_z1 := n6_; have NBz2_z16 := n7_; have NBz16_z2 := n8_; have HB := n9_; clear n0_ n1_ n2_ n3_ n4_ n5_ n6_ n7_ n8_ n9_
        have hHeld : w15.cell? ⟨gbz1, 0, none⟩ = some (.slice A0_0 l0_0.length c0_0) ∧ w15.cell? ⟨gbz1, 1, none⟩ = some (.slice A0_1 l0_1.length c0_1) := hS_
        refine norm_ (by simp only [putAll, Act.put, List.setIfInBounds_toArray, List.set_cons_zero, List.set_cons_succ]; rfl) ?_
        refine on_ 4 (some 17) HT_ rfl rfl (fun K hK => ?_)
        refine goes_ Try.func57 (by kernel_rfl) rfl #[] (by rfl) rfl rfl (by (try simp only [List.map_toArray, List.map_cons, List.map_nil]) <;> rfl) ?_
        with_reducible refine (vault_blank.calls  tz5 _ A5.out).mono ?_
        rintro e w16 ⟨rfl, hb⟩
        refine ⟨_, rfl, ?_⟩
        have n0_ := am (bkB (pk BKz1) hb)
        have n1_ := am (bkB (pk BKz2) hb)
        have n2_ := am (bkB (pk BKz16) hb)
        have n3_ := am (below_step (by repeat first | (with_reducible first | exact HB.out | apply ba | apply bn | apply bd | refine bs (by assumption) ?_) | exact HB.out) hb)
        clear BKz1 BKz2 BKz16 HB; have BKz1 := n0_; have BKz2 := n1_; have BKz16 := n2_; have HB := n3_; clear n0_ n1_ n2_ n3_; refine hK.out _ _ (bc2 BKz1) (fun hHeld => ?_)
        clear hK K
        refine norm_ (by show Act.put _ (some 17) _ = _; simp only [Act.put, sa_, s0_, s1_, i64_w, i32_w]; rfl) ?_
        refine pu_ 5 (some 18) HT_ rfl rfl (.inl ⟨by rfl, by intro w'; go_simp; with_reducible rfl⟩) (by simp only [Act.put, sa_, s0_, s1_, i64_w, i32_w]; rfl) ?_
        exact norm_ (by simp only [putAll, Act.put, sa_, s0_, s1_] <;> rfl) (hJ2_4_12 (gbz16) _ ⟨hHeld, (pk BKz1), (pk BKz2), (pk BKz16), GWz16.out, GEz16.out, NBz1_z16.out, NBz16_z1.out, NBz2_z16.out, NBz16_z2.out, (by repeat first | (with_reducible first | exact HB.out | apply ba | apply bn | apply bd | refine bs (by assumption) ?_) | exact HB.out)⟩)
      ·skip
       rintro _ w15 ⟨hS_, h0_, h1_, h2_⟩
       have n0_ : Aside0 (w15.heap[gbz1]? = some (.cells #[.slice A0_0 l0_0.length c0_0, .slice A0_1 l0_1.length c0_1] 30 (0, 0))) := ⟨h0_⟩
       have n1_ : Aside0 (w15.heap[gbz2]? = some (.cells #[.slice none 0 0, .slice none 0 0, .int .i64 0, .int .i64 0, .int .i64 0] 56 (0, 0))) := ⟨h1_⟩
       have n2_ : Aside0 (Below w.heap.size w w15) := ⟨h2_⟩
       clear BKz1 BKz2 HB h0_ h1_ h2_; have BKz1 := n0_; have BKz2 := n1_; have HB := n2_; clear n0_ n1_ n2_
       have hHeld : w15.cell? ⟨gbz1, 0, none⟩ = some (.slice A0_0 l0_0.length c0_0) ∧ w15.cell? ⟨gbz1, 1, none⟩ = some (.slice A0_1 l0_1.length c0_1) := hS_
       refine norm_ (by simp only [putAll, Act.put, List.setIfInBounds_toArray, List.set_cons_zero, List.set_cons_succ]; rfl) ?_
       refine two_ (i := 7) (j := 12) (Ni := some 20) (Nj := some 4) #[true, true, true, true, true, true, true, true, false, false, false, false, false, false, false] #[true, true, true, true, true, true, true, false, false, false, false, false, true, false, false] rfl rfl rfl rfl (two_of HT_.out (by kernel_rfl)) (by decide) (by decide) (fun K hK => ?_) (fun K hK => ?_)
       ·skip
        refine Kd.R_lit_step k24 _ 24 ?hg (N := 20) ?hd (xs := ([(⟨false, 0, tz4⟩ : S24), (⟨false, 1, tz5⟩ : S24), (⟨true, 0, (⟨#[]⟩ : ByteArray)⟩ : S24)] : List (S24))) (inner := [.bool false, .int .i64 0, .string tz4, .bool false, .int .i64 1, .string tz5, .bool true, .int .i64 0, .string (⟨#[]⟩ : ByteArray)]) (ok := fun _ => True) (okp := fun _ => True) ?hr ?hp (fun _ hk => hk) trivial (Below.refl _ _) (Nat.le_refl _) (by simp) ?_; (case hd => rfl); (case hg => rfl); (case hr => first | (go_simp; done) | (go_simp; rfl)); (case hp => exact (Reps.c3 (show Kd.M k24 _ _ _ (⟨false, 0, tz4⟩ : S24) [.bool false, .int .i64 0, .string tz4] from (k24_mkM _ _ _ (⟨false, 0, tz4⟩ : S24) )) (Reps.c3 (show Kd.M k24 _ _ _ (⟨false, 1, tz5⟩ : S24) [.bool false, .int .i64 1, .string tz5] from (k24_mkM _ _ _ (⟨false, 1, tz5⟩ : S24) )) (Reps.c3 (show Kd.M k24 _ _ _ (⟨true, 0, (⟨#[]⟩ : ByteArray)⟩ : S24) [.bool true, .int .i64 0, .string (⟨#[]⟩ : ByteArray)] from (k24_mkM _ _ _ (⟨true, 0, (⟨#[]⟩ : ByteArray)⟩ : S24) )) (Reps.none _ _)))))
        intro vz7 w16 ho17 hb hg_ hnew_
        clear hg_ hnew_
        (first | rw [← Nyz6.out] at ho17 | (simp only [Int.reduceToNat] at ho17; rw [← Nyz6.out] at ho17))
        have n0_ := am (Kd.R_lower ho17 (below_size (by repeat first | (with_reducible first | exact HB.out | apply ba | apply bn | apply bd | refine bs (by assumption) ?_) | exact HB.out)))
        have n1_ := am (bkB (pk BKz1) hb)
        have n2_ := am (bkB (pk BKz2) hb)
        have n3_ := am (below_step (by repeat first | (with_reducible first | exact HB.out | apply ba | apply bn | apply bd | refine bs (by assumption) ?_) | exact HB.out) hb)
        clear BKz1 BKz2 HB; have HOz8 := n0_; have BKz1 := n1_; have BKz2 := n2_; have HB := n3_; clear n0_ n1_ n2_ n3_; clear hb ho17
        refine hK.out _ _ (bc2 BKz1) (fun hHeld => ?_)
        clear hK K
        refine norm_ (by show Act.put _ (some 20) _ = _; simp only [Act.put, sa_, s0_, s1_, i64_w, i32_w]; rfl) ?_
        exact norm_ (by simp only [putAll, Act.put, sa_, s0_, s1_] <;> rfl) (hJ2_4_7 (vz7) _ ⟨hHeld, (pr HOz8), (pk BKz1), (pk BKz2), (by repeat first | (with_reducible first | exact HB.out | apply ba | apply bn | apply bd | refine bs (by assumption) ?_) | exact HB.out)⟩)
       skip
       refine box_step ?hg (N := 4) ?hd (cs := #[.slice none 0 0, .slice none 0 0]) (t := 30) ?hr ?_; (case hd => rfl); (case hg => rfl); (case hr => first | (go_simp; done) | (go_simp; rfl))
       intro gbz16 hg w16 hbox hb
       have n0_ := am (bkB (pk BKz1) hb)
       have n1_ := am (bkB (pk BKz2) hb)
       have n2_ := am (below_step (by repeat first | (with_reducible first | exact HB.out | apply ba | apply bn | apply bd | refine bs (by assumption) ?_) | exact HB.out) hb)
       have n3_ := am (hbox)
       have n4_ := ge_ hg (by repeat first | (with_reducible first | exact HB.out | apply ba | apply bn | apply bd | refine bs (by assumption) ?_) | exact HB.out)
       have n5_ := ge_ hg (by repeat first | (with_reducible first | exact HB.out | apply ba | apply bn | apply bd | refine bs (by assumption) ?_) | exact HB.out)
       have n6_ := nl_ hg BKz1
       have n7_ := ng_ hg BKz1
       have n8_ := nl_ hg BKz2
       have n9_ := ng_ hg BKz2
       clear BKz1 BKz2 HB; have BKz1 := n0_; have BKz2 := n1_; have HB := n2_; have BKz16 := n3_; have GWz16 := n4_; have GEz16 := n5_; have NBz1_z16 := n6_; have NBz16_z1 := n7_; have NBz2_z16 := n8_; have NBz16_z2 := n9_; clear n0_ n1_ n2_ n3_ n4_ n5_ n6_ n7_ n8_ n9_; clear hb hbox hg
       refine hK.out _ _ (bc2 BKz1) (fun hHeld => ?_)
       clear hK K
       refine norm_ (by show Act.put _ (some 4) _ = _; simp only [Act.put, sa_, s0_, s1_, i64_w, i32_w]; rfl) ?_
       exact norm_ (by simp only [putAll, Act.put, sa_, s0_, s1_] <;> rfl) (hJ2_4_12 (gbz16) _ ⟨hHeld, (pk BKz1), (pk BKz2), (pk BKz16), GWz16.out, GEz16.out, NBz1_z16.out, NBz16_z1.out, NBz2_z16.out, NBz16_z2.out, (by repeat first | (with_reducible first | exact HB.out | apply ba | apply bn | apply bd | refine bs (by assumption) ?_) | exact HB.out)⟩)
     ·skip
      rintro gbz16 w16 ⟨hS_, h0_, h1_, h2_, h3_, h4_, h5_, h6_, h7_, h8_, h9_⟩
      have n0_ : Aside0 (w16.heap[gbz1]? = some (.cells #[.slice A0_0 l0_0.length c0_0, .slice A0_1 l0_1.length c0_1] 30 (0, 0))) := ⟨h0_⟩
      have n1_ : Aside0 (w16.heap[gbz2]? = some (.cells #[.slice none 0 0, .slice none 0 0, .int .i64 0, .int .i64 0, .int .i64 0] 56 (0, 0))) := ⟨h1_⟩
      have n2_ : Aside0 (w16.heap[gbz16]? = some (.cells #[.slice none 0 0, .slice none 0 0] 30 (0, 0))) := ⟨h2_⟩
      have n3_ : Aside0 (w.heap.size ≤ gbz16) := ⟨h3_⟩
      have n4_ : Aside0 (w.heap.size ≤ gbz16) := ⟨h4_⟩
      have n5_ : Aside0 (gbz1 ≠ gbz16) := ⟨h5_⟩
      have n6_ : Aside0 (gbz16 ≠ gbz1) := ⟨h6_⟩
      have n7_ : Aside0 (gbz2 ≠ gbz16) := ⟨h7_⟩
      have n8_ : Aside0 (gbz16 ≠ gbz2) := ⟨h8_⟩
      have n9_ : Aside0 (Below w.heap.size w w16) := ⟨h9_⟩
      clear BKz1 BKz2 HB h0_ h1_ h2_ h3_ h4_ h5_ h6_ h7_ h8_ h9_; have BKz1 := n0_; have BKz2 := n1_; have BKz16 := n2_; have GWz16 := n3_; have GEz16 := n4_; have NBz1_z16 := n5_; have NBz16_z1 := n6_; have NBz2_z16 := n7_; have NBz16_z2 := n8_; have HB := n9_; clear n0_ n1_ n2_ n3_ n4_ n5_ n6_ n7_ n8_ n9_
      have hHeld : w16.cell? ⟨gbz1, 0, none⟩ = some (.slice A0_0 l0_0.length c0_0) ∧ w16.cell? ⟨gbz1, 1, none⟩ = some (.slice A0_1 l0_1.length c0_1) := hS_
      refine norm_ (by simp only [putAll, Act.put, List.setIfInBounds_toArray, List.set_cons_zero, List.set_cons_succ]; rfl) ?_
      refine on_ 7 (some 20) HT_ rfl rfl (fun K hK => ?_)
      refine Kd.R_lit_step k24 _ 24 ?hg (N := 20) ?hd (xs := ([(⟨false, 0, tz4⟩ : S24), (⟨false, 1, tz5⟩ : S24), (⟨true, 0, (⟨#[]⟩ : ByteArray)⟩ : S24)] : List (S24))) (inner := [.bool false, .int .i64 0, .string tz4, .bool false, .int .i64 1, .string tz5, .bool true, .int .i64 0, .string (⟨#[]⟩ : ByteArray)]) (ok := fun _ => True) (okp := fun _ => True) ?hr ?hp (fun _ hk => hk) trivial (Below.refl _ _) (Nat.le_refl _) (by simp) ?_; (case hd => rfl); (case hg => rfl); (case hr => first | (go_simp; done) | (go_simp; rfl)); (case hp => exact (Reps.c3 (show Kd.M k24 _ _ _ (⟨false, 0, tz4⟩ : S24) [.bool false, .int .i64 0, .string tz4] from (k24_mkM _ _ _ (⟨false, 0, tz4⟩ : S24) )) (Reps.c3 (show Kd.M k24 _ _ _ (⟨false, 1, tz5⟩ : S24) [.bool false, .int .i64 1, .string tz5] from (k24_mkM _ _ _ (⟨false, 1, tz5⟩ : S24) )) (Reps.c3 (show Kd.M k24 _ _ _ (⟨true, 0, (⟨#[]⟩ : ByteArray)⟩ : S24) [.bool true, .int .i64 0, .string (⟨#[]⟩ : ByteArray)] from (k24_mkM _ _ _ (⟨true, 0, (⟨#[]⟩ : ByteArray)⟩ : S24) )) (Reps.none _ _)))))
      intro vz7 w17 ho18 hb hg_ hnew_
      clear hg_ hnew_
      (first | rw [← Nyz6.out] at ho18 | (simp only [Int.reduceToNat] at ho18; rw [← Nyz6.out] at ho18))
      have n0_ := am (Kd.R_lower ho18 (below_size (by repeat first | (with_reducible first | exact HB.out | apply ba | apply bn | apply bd | refine bs (by assumption) ?_) | exact HB.out)))
      have n1_ := am (bkB (pk BKz1) hb)
      have n2_ := am (bkB (pk BKz2) hb)
      have n3_ := am (bkB (pk BKz16) hb)
      have n4_ := am (below_step (by repeat first | (with_reducible first | exact HB.out | apply ba | apply bn | apply bd | refine bs (by assumption) ?_) | exact HB.out) hb)
      clear BKz1 BKz2 BKz16 HB; have HOz8 := n0_; have BKz1 := n1_; have BKz2 := n2_; have BKz16 := n3_; have HB := n4_; clear n0_ n1_ n2_ n3_ n4_; clear hb ho18
      refine hK.out _ _ (bc2 BKz1) (fun hHeld => ?_)
      clear hK K
      refine norm_ (by show Act.put _ (some 20) _ = _; simp only [Act.put, sa_, s0_, s1_, i64_w, i32_w]; rfl) ?_
      exact norm_ (by simp only [putAll, Act.put, sa_, s0_, s1_] <;> rfl) (hJ2_4_7_12 (vz7, gbz16) _ ⟨hHeld, (pr HOz8), (pk BKz1), (pk BKz2), (pk BKz16), GWz16.out, GEz16.out, NBz1_z16.out, NBz16_z1.out, NBz2_z16.out, NBz16_z2.out, (by repeat first | (with_reducible first | exact HB.out | apply ba | apply bn | apply bd | refine bs (by assumption) ?_) | exact HB.out)⟩)
    ·skip
     rintro vz7 w17 ⟨hS_, h0_, h1_, h2_, h3_⟩
     have n0_ : Aside0 (Kd.R k24 24 w17 w.heap.size (fun _ => True) vz7 yz6) := ⟨h0_⟩
     have n1_ : Aside0 (w17.heap[gbz1]? = some (.cells #[.slice A0_0 l0_0.length c0_0, .slice A0_1 l0_1.length c0_1] 30 (0, 0))) := ⟨h1_⟩
     have n2_ : Aside0 (w17.heap[gbz2]? = some (.cells #[.slice none 0 0, .slice none 0 0, .int .i64 0, .int .i64 0, .int .i64 0] 56 (0, 0))) := ⟨h2_⟩
     have n3_ : Aside0 (Below w.heap.size w w17) := ⟨h3_⟩
     clear BKz1 BKz2 HB h0_ h1_ h2_ h3_; have HOz8 := n0_; have BKz1 := n1_; have BKz2 := n2_; have HB := n3_; clear n0_ n1_ n2_ n3_
     have hHeld : w17.cell? ⟨gbz1, 0, none⟩ = some (.slice A0_0 l0_0.length c0_0) ∧ w17.cell? ⟨gbz1, 1, none⟩ = some (.slice A0_1 l0_1.length c0_1) := hS_
     obtain ⟨Ao18, co18, eo18⟩ := Kd.R_slice HOz8.out
     (first | subst eo18 | (injection eo18 with f1_ f2_ f3_; have f4_ := f1_.symm; have f5_ := f3_.symm; clear f1_ f2_ f3_; subst f4_; subst f5_))
     refine norm_ (by simp only [putAll, Act.put, List.setIfInBounds_toArray, List.set_cons_zero, List.set_cons_succ]; rfl) ?_
     refine two_ (i := 8) (j := 12) (Ni := some 21) (Nj := some 4) #[true, true, true, true, true, true, true, true, true, false, false, false, false, false, false] #[true, true, true, true, true, true, true, true, false, false, false, false, true, false, false] rfl rfl rfl rfl (two_of HT_.out (by kernel_rfl)) (by decide) (by decide) (fun K hK => ?_) (fun K hK => ?_)
     rotate_left
     ·skip
      refine box_step ?hg (N := 4) ?hd (cs := #[.slice none 0 0, .slice none 0 0]) (t := 30) ?hr ?_; (case hd => rfl); (case hg => rfl); (case hr => first | (go_simp; done) | (go_simp; rfl))
      intro gbz16 hg w18 hbox hb
      have n0_ := am (Kd.R_below (pr HOz8) hb)
      have n1_ := am (bkB (pk BKz1) hb)
      have n2_ := am (bkB (pk BKz2) hb)
      have n3_ := am (below_step (by repeat first | (with_reducible first | exact HB.out | apply ba | apply bn | apply bd | refine bs (by assumption) ?_) | exact HB.out) hb)
      have n4_ := am (hbox)
      have n5_ := ge_ hg (by repeat first | (with_reducible first | exact HB.out | apply ba | apply bn | apply bd | refine bs (by assumption) ?_) | exact HB.out)
      have n6_ := ge_ hg (by repeat first | (with_reducible first | exact HB.out | apply ba | apply bn | apply bd | refine bs (by assumption) ?_) | exact HB.out)
      have n7_ := nl_ hg BKz1
      have n8_ := ng_ hg BKz1
      have n9_ := nl_ hg BKz2
      have n10_ := ng_ hg BKz2
      clear HOz8 BKz1 BKz2 HB; have HOz8 := n0_; have BKz1 := n1_; have BKz2 := n2_; have HB := n3_; have BKz16 := n4_; have GWz16 := n5_; have GEz16 := n6_; have NBz1_z16 := n7_; have NBz16_z1 := n8_; have NBz2_z16 := n9_; have NBz16_z2 := n10_; clear n0_ n1_ n2_ n3_ n4_ n5_ n6_ n7_ n8_ n9_ n10_; clear hb hbox hg
      refine hK.out _ _ (bc2 BKz1) (fun hHeld => ?_)
      clear hK K
      refine norm_ (by show Act.put _ (some 4) _ = _; simp only [Act.put, sa_, s0_, s1_, i64_w, i32_w]; rfl) ?_
      exact norm_ (by simp only [putAll, Act.put, sa_, s0_, s1_] <;> rfl) (hJ2_4_7_12 ((.slice Ao18 yz6.length co18), gbz16) _ ⟨hHeld, (pr HOz8), (pk BKz1), (pk BKz2), (pk BKz16), GWz16.out, GEz16.out, NBz1_z16.out, NBz16_z1.out, NBz2_z16.out, NBz16_z2.out, (by repeat first | (with_reducible first | exact HB.out | apply ba | apply bn | apply bd | refine bs (by assumption) ?_) | exact HB.out)⟩)
     skip
     refine goes_ Try.func25 (by kernel_rfl) rfl #[.agg #[.slice A0_0 l0_0.length c0_0, .slice A0_1 l0_1.length c0_1], .slice Ao18 yz6.length co18] (by rfl) rfl rfl (by (try simp only [List.map_toArray, List.map_cons, List.map_nil]) <;> rfl) ?_
     with_reducible refine (disk_Do.calls _ _ l0_0 _ _ l0_1 _ _ yz6 tz9 tz12 tz15 _ ?side1 ?side2 ?side3 ?side4 ?side5 ?side6 A6.out).mono ?_
     (case side1 => repeat (first | exact (Kd.C_below HR0_0.out HB.out) | (with_reducible refine Kd.C_alloc ?_ _) | (with_reducible refine Kd.C_drewN ?_ _) | (with_reducible refine Kd.C_drew ?_)))
     (case side2 => exact HC0_0.out)
     (case side3 => repeat (first | exact (Kd.C_below HR0_1.out HB.out) | (with_reducible refine Kd.C_alloc ?_ _) | (with_reducible refine Kd.C_drewN ?_ _) | (with_reducible refine Kd.C_drew ?_)))
     (case side4 => exact HC0_1.out)
     (case side5 => repeat (first | exact (Kd.R_reads' HOz8.out).2.2 | (with_reducible refine Kd.C_alloc ?_ _) | (with_reducible refine Kd.C_drewN ?_ _) | (with_reducible refine Kd.C_drew ?_)))
     (case side6 => exact (Kd.R_reads' HOz8.out).2.1)
     rintro e w19 ⟨vz10, vz13, rfl, ho0, ho1, hb⟩
     refine ⟨_, rfl, ?_⟩
     have n0_ := am (Kd.R_elder' (pr HOz8) (Kd.R_base ho1) hb)
     have n1_ := am (Kd.R_lower ho0 (below_size (by repeat first | (with_reducible first | exact HB.out | apply ba | apply bn | apply bd | refine bs (by assumption) ?_) | exact HB.out)))
     have n2_ := am (Kd.R_lower (Kd.R_new' ho1 (Kd.R_lt (pr HOz8))) (below_size (by repeat first | (with_reducible first | exact HB.out | apply ba | apply bn | apply bd | refine bs (by assumption) ?_) | exact HB.out)))
     have n3_ := am (bkB (pk BKz1) hb)
     have n4_ := am (bkB (pk BKz2) hb)
     have n5_ := am (below_step (by repeat first | (with_reducible first | exact HB.out | apply ba | apply bn | apply bd | refine bs (by assumption) ?_) | exact HB.out) hb)
     clear HOz8 BKz1 BKz2 HB; have HOz8 := n0_; have HOz11 := n1_; have HOz14 := n2_; have BKz1 := n3_; have BKz2 := n4_; have HB := n5_; clear n0_ n1_ n2_ n3_ n4_ n5_; refine hK.out _ _ (bc2 BKz1) (fun hHeld => ?_)
     clear hK K
     refine norm_ (by show Act.put _ (some 21) _ = _; simp only [Act.put, sa_, s0_, s1_, i64_w, i32_w]; rfl) ?_
     refine pu_ 9 (some 12) HT_ rfl rfl (.inl ⟨by rfl, by intro w'; go_simp; with_reducible rfl⟩) (by simp only [Act.put, sa_, s0_, s1_, i64_w, i32_w]; rfl) ?_
     refine pu_ 10 (some 22) HT_ rfl rfl (.inl ⟨by rfl, by intro w'; go_simp; with_reducible rfl⟩) (by simp only [Act.put, sa_, s0_, s1_, i64_w, i32_w]; rfl) ?_
     refine pu_ 11 (some 23) HT_ rfl rfl (.inl ⟨by rfl, by intro w'; go_simp; with_reducible rfl⟩) (by simp only [Act.put, sa_, s0_, s1_, i64_w, i32_w]; rfl) ?_
     exact norm_ (by simp only [putAll, Act.put, sa_, s0_, s1_] <;> rfl) (hJ2_4_7_8 (.slice Ao18 yz6.length co18, vz10, vz13) _ ⟨hHeld, (pm HOz8 (fun _ hk => hk.2)), (pr HOz11), (pm HOz14 (fun _ hk => hk.2)), (pk BKz1), (pk BKz2), (by repeat first | (with_reducible first | exact HB.out | apply ba | apply bn | apply bd | refine bs (by assumption) ?_) | exact HB.out)⟩)
   ·skip
    rintro ⟨vz7, gbz16⟩ w18 ⟨hS_, h0_, h1_, h2_, h3_, h4_, h5_, h6_, h7_, h8_, h9_, h10_⟩
    have n0_ : Aside0 (Kd.R k24 24 w18 w.heap.size (fun _ => True) vz7 yz6) := ⟨h0_⟩
    have n1_ : Aside0 (w18.heap[gbz1]? = some (.cells #[.slice A0_0 l0_0.length c0_0, .slice A0_1 l0_1.length c0_1] 30 (0, 0))) := ⟨h1_⟩
    have n2_ : Aside0 (w18.heap[gbz2]? = some (.cells #[.slice none 0 0, .slice none 0 0, .int .i64 0, .int .i64 0, .int .i64 0] 56 (0, 0))) := ⟨h2_⟩
    have n3_ : Aside0 (w18.heap[gbz16]? = some (.cells #[.slice none 0 0, .slice none 0 0] 30 (0, 0))) := ⟨h3_⟩
    have n4_ : Aside0 (w.heap.size ≤ gbz16) := ⟨h4_⟩
    have n5_ : Aside0 (w.heap.size ≤ gbz16) := ⟨h5_⟩
    have n6_ : Aside0 (gbz1 ≠ gbz16) := ⟨h6_⟩
    have n7_ : Aside0 (gbz16 ≠ gbz1) := ⟨h7_⟩
    have n8_ : Aside0 (gbz2 ≠ gbz16) := ⟨h8_⟩
    have n9_ : Aside0 (gbz16 ≠ gbz2) := ⟨h9_⟩
    have n10_ : Aside0 (Below w.heap.size w w18) := ⟨h10_⟩
    clear BKz1 BKz2 HB h0_ h1_ h2_ h3_ h4_ h5_ h6_ h7_ h8_ h9_ h10_; have HOz8 := n0_; have BKz1 := n1_; have BKz2 := n2_; have BKz16 := n3_; have GWz16 := n4_; have GEz16 := n5_; have NBz1_z16 := n6_; have NBz16_z1 := n7_; have NBz2_z16 := n8_; have NBz16_z2 := n9_; have HB := n10_; clear n0_ n1_ n2_ n3_ n4_ n5_ n6_ n7_ n8_ n9_ n10_
    have hHeld : w18.cell? ⟨gbz1, 0, none⟩ = some (.slice A0_0 l0_0.length c0_0) ∧ w18.cell? ⟨gbz1, 1, none⟩ = some (.slice A0_1 l0_1.length c0_1) := hS_
    obtain ⟨Ao19, co19, eo19⟩ := Kd.R_slice HOz8.out
    (first | subst eo19 | (injection eo19 with f1_ f2_ f3_; have f4_ := f1_.symm; have f5_ := f3_.symm; clear f1_ f2_ f3_; subst f4_; subst f5_))
    refine norm_ (by simp only [putAll, Act.put, List.setIfInBounds_toArray, List.set_cons_zero, List.set_cons_succ]; rfl) ?_
    refine on_ 8 (some 21) HT_ rfl rfl (fun K hK => ?_)
    refine goes_ Try.func25 (by kernel_rfl) rfl #[.agg #[.slice A0_0 l0_0.length c0_0, .slice A0_1 l0_1.length c0_1], .slice Ao19 yz6.length co19] (by rfl) rfl rfl (by (try simp only [List.map_toArray, List.map_cons, List.map_nil]) <;> rfl) ?_
    with_reducible refine (disk_Do.calls _ _ l0_0 _ _ l0_1 _ _ yz6 tz9 tz12 tz15 _ ?side1 ?side2 ?side3 ?side4 ?side5 ?side6 A6.out).mono ?_
    (case side1 => repeat (first | exact (Kd.C_below HR0_0.out HB.out) | (with_reducible refine Kd.C_alloc ?_ _) | (with_reducible refine Kd.C_drewN ?_ _) | (with_reducible refine Kd.C_drew ?_)))
    (case side2 => exact HC0_0.out)
    (case side3 => repeat (first | exact (Kd.C_below HR0_1.out HB.out) | (with_reducible refine Kd.C_alloc ?_ _) | (with_reducible refine Kd.C_drewN ?_ _) | (with_reducible refine Kd.C_drew ?_)))
    (case side4 => exact HC0_1.out)
    (case side5 => repeat (first | exact (Kd.R_reads' HOz8.out).2.2 | (with_reducible refine Kd.C_alloc ?_ _) | (with_reducible refine Kd.C_drewN ?_ _) | (with_reducible refine Kd.C_drew ?_)))
    (case side6 => exact (Kd.R_reads' HOz8.out).2.1)
    rintro e w20 ⟨vz10, vz13, rfl, ho0, ho1, hb⟩
    refine ⟨_, rfl, ?_⟩
    have n0_ := am (Kd.R_elder' (pr HOz8) (Kd.R_base ho1) hb)
    have n1_ := am (Kd.R_lower ho0 (below_size (by repeat first | (with_reducible first | exact HB.out | apply ba | apply bn | apply bd | refine bs (by assumption) ?_) | exact HB.out)))
    have n2_ := am (Kd.R_lower (Kd.R_new' ho1 (Kd.R_lt (pr HOz8))) (below_size (by repeat first | (with_reducible first | exact HB.out | apply ba | apply bn | apply bd | refine bs (by assumption) ?_) | exact HB.out)))
    have n3_ := am (bkB (pk BKz1) hb)
    have n4_ := am (bkB (pk BKz2) hb)
    have n5_ := am (bkB (pk BKz16) hb)
    have n6_ := am (below_step (by repeat first | (with_reducible first | exact HB.out | apply ba | apply bn | apply bd | refine bs (by assumption) ?_) | exact HB.out) hb)
    clear HOz8 BKz1 BKz2 BKz16 HB; have HOz8 := n0_; have HOz11 := n1_; have HOz14 := n2_; have BKz1 := n3_; have BKz2 := n4_; have BKz16 := n5_; have HB := n6_; clear n0_ n1_ n2_ n3_ n4_ n5_ n6_; refine hK.out _ _ (bc2 BKz1) (fun hHeld => ?_)
    clear hK K
    refine norm_ (by show Act.put _ (some 21) _ = _; simp only [Act.put, sa_, s0_, s1_, i64_w, i32_w]; rfl) ?_
    refine pu_ 9 (some 12) HT_ rfl rfl (.inl ⟨by rfl, by intro w'; go_simp; with_reducible rfl⟩) (by simp only [Act.put, sa_, s0_, s1_, i64_w, i32_w]; rfl) ?_
    refine pu_ 10 (some 22) HT_ rfl rfl (.inl ⟨by rfl, by intro w'; go_simp; with_reducible rfl⟩) (by simp only [Act.put, sa_, s0_, s1_, i64_w, i32_w]; rfl) ?_
    refine pu_ 11 (some 23) HT_ rfl rfl (.inl ⟨by rfl, by intro w'; go_simp; with_reducible rfl⟩) (by simp only [Act.put, sa_, s0_, s1_, i64_w, i32_w]; rfl) ?_
    exact norm_ (by simp only [putAll, Act.put, sa_, s0_, s1_] <;> rfl) (hJ2_4_7_8_12 (.slice Ao19 yz6.length co19, vz10, vz13, gbz16) _ ⟨hHeld, (pm HOz8 (fun _ hk => hk.2)), (pr HOz11), (pm HOz14 (fun _ hk => hk.2)), (pk BKz1), (pk BKz2), (pk BKz16), GWz16.out, GEz16.out, NBz1_z16.out, NBz16_z1.out, NBz2_z16.out, NBz16_z2.out, (by repeat first | (with_reducible first | exact HB.out | apply ba | apply bn | apply bd | refine bs (by assumption) ?_) | exact HB.out)⟩)
  ·skip
   rintro ⟨vz7, vz10, vz13⟩ w19 ⟨hS_, h0_, h1_, h2_, h3_, h4_, h5_⟩
   have n0_ : Aside0 (Kd.R k24 24 w19 w.heap.size (fun k_ => some k_ ≠ (vz13 : Value).ownBlock) vz7 yz6) := ⟨h0_⟩
   have n1_ : Aside0 (Kd.R Kd.string 9 w19 w.heap.size (fun _ => True) vz10 tz9) := ⟨h1_⟩
   have n2_ : Aside0 (Kd.R k24 24 w19 w.heap.size (fun k_ => some k_ ≠ (vz7 : Value).ownBlock) vz13 tz12) := ⟨h2_⟩
   have n3_ : Aside0 (w19.heap[gbz1]? = some (.cells #[.slice A0_0 l0_0.length c0_0, .slice A0_1 l0_1.length c0_1] 30 (0, 0))) := ⟨h3_⟩
   have n4_ : Aside0 (w19.heap[gbz2]? = some (.cells #[.slice none 0 0, .slice none 0 0, .int .i64 0, .int .i64 0, .int .i64 0] 56 (0, 0))) := ⟨h4_⟩
   have n5_ : Aside0 (Below w.heap.size w w19) := ⟨h5_⟩
   clear BKz1 BKz2 HB h0_ h1_ h2_ h3_ h4_ h5_; have HOz8 := n0_; have HOz11 := n1_; have HOz14 := n2_; have BKz1 := n3_; have BKz2 := n4_; have HB := n5_; clear n0_ n1_ n2_ n3_ n4_ n5_
   have hHeld : w19.cell? ⟨gbz1, 0, none⟩ = some (.slice A0_0 l0_0.length c0_0) ∧ w19.cell? ⟨gbz1, 1, none⟩ = some (.slice A0_1 l0_1.length c0_1) := hS_
   refine norm_ (by simp only [putAll, Act.put, List.setIfInBounds_toArray, List.set_cons_zero, List.set_cons_succ]; rfl) ?_
   refine on_ 12 (some 4) HT_ rfl rfl (fun K hK => ?_)
   refine box_step ?hg (N := 4) ?hd (cs := #[.slice none 0 0, .slice none 0 0]) (t := 30) ?hr ?_; (case hd => rfl); (case hg => rfl); (case hr => first | (go_simp; done) | (go_simp; rfl))
   intro gbz16 hg w20 hbox hb
   have n0_ := am (Kd.R_below (pr HOz8) hb)
   have n1_ := am (Kd.R_below (pr HOz11) hb)
   have n2_ := am (Kd.R_below (pr HOz14) hb)
   have n3_ := am (bkB (pk BKz1) hb)
   have n4_ := am (bkB (pk BKz2) hb)
   have n5_ := am (below_step (by repeat first | (with_reducible first | exact HB.out | apply ba | apply bn | apply bd | refine bs (by assumption) ?_) | exact HB.out) hb)
   have n6_ := am (hbox)
   have n7_ := ge_ hg (by repeat first | (with_reducible first | exact HB.out | apply ba | apply bn | apply bd | refine bs (by assumption) ?_) | exact HB.out)
   have n8_ := ge_ hg (by repeat first | (with_reducible first | exact HB.out | apply ba | apply bn | apply bd | refine bs (by assumption) ?_) | exact HB.out)
   have n9_ := nl_ hg BKz1
   have n10_ := ng_ hg BKz1
   have n11_ := nl_ hg BKz2
   have n12_ := ng_ hg BKz2
   clear HOz8 HOz11 HOz14 BKz1 BKz2 HB; have HOz8 := n0_; have HOz11 := n1_; have HOz14 := n2_; have BKz1 := n3_; have BKz2 := n4_; have HB := n5_; have BKz16 := n6_; have GWz16 := n7_; have GEz16 := n8_; have NBz1_z16 := n9_; have NBz16_z1 := n10_; have NBz2_z16 := n11_; have NBz16_z2 := n12_; clear n0_ n1_ n2_ n3_ n4_ n5_ n6_ n7_ n8_ n9_ n10_ n11_ n12_; clear hb hbox hg
   refine hK.out _ _ (bc2 BKz1) (fun hHeld => ?_)
   clear hK K
   refine norm_ (by show Act.put _ (some 4) _ = _; simp only [Act.put, sa_, s0_, s1_, i64_w, i32_w]; rfl) ?_
   exact norm_ (by simp only [putAll, Act.put, sa_, s0_, s1_] <;> rfl) (hJ2_4_7_8_12 (vz7, vz10, vz13, gbz16) _ ⟨hHeld, (pr HOz8), (pr HOz11), (pr HOz14), (pk BKz1), (pk BKz2), (pk BKz16), GWz16.out, GEz16.out, NBz1_z16.out, NBz16_z1.out, NBz2_z16.out, NBz16_z2.out, (by repeat first | (with_reducible first | exact HB.out | apply ba | apply bn | apply bd | refine bs (by assumption) ?_) | exact HB.out)⟩)
 rintro ⟨vz7, vz10, vz13, gbz16⟩ w20 ⟨hS_, h0_, h1_, h2_, h3_, h4_, h5_, h6_, h7_, h8_, h9_, h10_, h11_, h12_⟩
 have n0_ : Aside0 (Kd.R k24 24 w20 w.heap.size (fun k_ => some k_ ≠ (vz13 : Value).ownBlock) vz7 yz6) := ⟨h0_⟩
 have n1_ : Aside0 (Kd.R Kd.string 9 w20 w.heap.size (fun _ => True) vz10 tz9) := ⟨h1_⟩
 have n2_ : Aside0 (Kd.R k24 24 w20 w.heap.size (fun k_ => some k_ ≠ (vz7 : Value).ownBlock) vz13 tz12) := ⟨h2_⟩
 have n3_ : Aside0 (w20.heap[gbz1]? = some (.cells #[.slice A0_0 l0_0.length c0_0, .slice A0_1 l0_1.length c0_1] 30 (0, 0))) := ⟨h3_⟩
 have n4_ : Aside0 (w20.heap[gbz2]? = some (.cells #[.slice none 0 0, .slice none 0 0, .int .i64 0, .int .i64 0, .int .i64 0] 56 (0, 0))) := ⟨h4_⟩
 have n5_ : Aside0 (w20.heap[gbz16]? = some (.cells #[.slice none 0 0, .slice none 0 0] 30 (0, 0))) := ⟨h5_⟩
 have n6_ : Aside0 (w.heap.size ≤ gbz16) := ⟨h6_⟩
 have n7_ : Aside0 (w.heap.size ≤ gbz16) := ⟨h7_⟩
 have n8_ : Aside0 (gbz1 ≠ gbz16) := ⟨h8_⟩
 have n9_ : Aside0 (gbz16 ≠ gbz1) := ⟨h9_⟩
 have n10_ : Aside0 (gbz2 ≠ gbz16) := ⟨h10_⟩
 have n11_ : Aside0 (gbz16 ≠ gbz2) := ⟨h11_⟩
 have n12_ : Aside0 (Below w.heap.size w w20) := ⟨h12_⟩
 clear BKz1 BKz2 HB h0_ h1_ h2_ h3_ h4_ h5_ h6_ h7_ h8_ h9_ h10_ h11_ h12_; have HOz8 := n0_; have HOz11 := n1_; have HOz14 := n2_; have BKz1 := n3_; have BKz2 := n4_; have BKz16 := n5_; have GWz16 := n6_; have GEz16 := n7_; have NBz1_z16 := n8_; have NBz16_z1 := n9_; have NBz2_z16 := n10_; have NBz16_z2 := n11_; have HB := n12_; clear n0_ n1_ n2_ n3_ n4_ n5_ n6_ n7_ n8_ n9_ n10_ n11_ n12_
 have hHeld : w20.cell? ⟨gbz1, 0, none⟩ = some (.slice A0_0 l0_0.length c0_0) ∧ w20.cell? ⟨gbz1, 1, none⟩ = some (.slice A0_1 l0_1.length c0_1) := hS_
 obtain ⟨Ao21, co21, eo21⟩ := Kd.R_slice HOz11.out
 (first | subst eo21 | (injection eo21 with f1_ f2_ f3_; have f4_ := f1_.symm; have f5_ := f3_.symm; clear f1_ f2_ f3_; subst f4_; subst f5_))
 obtain ⟨Ao23, co23, eo23⟩ := Kd.R_slice HOz14.out
 (first | subst eo23 | (injection eo23 with f1_ f2_ f3_; have f4_ := f1_.symm; have f5_ := f3_.symm; clear f1_ f2_ f3_; subst f4_; subst f5_))
 refine norm_ (by simp only [putAll, Act.put, List.setIfInBounds_toArray, List.set_cons_zero, List.set_cons_succ]; rfl) ?_
 refine on_ 13 none HT_ rfl rfl (fun K hK => ?_)
 have hs22 : w20.cell? ⟨gbz16, 0, none⟩ = some (.slice none 0 0) := (blk_cell BKz16.out 0).trans rfl
 have hfs22 := blk_frozen BKz16.out 0
 have := NBz1_z16.out
 have := NBz2_z16.out
 have := NBz16_z1.out
 have := NBz16_z2.out
 have hs24 : w20.cell? ⟨gbz16, 1, none⟩ = some (.slice none 0 0) := (blk_cell BKz16.out 1).trans rfl
 have hfs24 := blk_frozen BKz16.out 1
 have := NBz1_z16.out
 have := NBz2_z16.out
 have := NBz16_z1.out
 have := NBz16_z2.out
 refine skip_ (by rfl) rfl (by go_simp; rfl) ?_
 refine hK.out _ _ ⟨((cell_far (p := ⟨gbz16, _, none⟩) NBz1_z16.out _).trans (((cell_far (p := ⟨gbz16, _, none⟩) NBz1_z16.out _).trans (hHeld.1)))), ((cell_far (p := ⟨gbz16, _, none⟩) NBz1_z16.out _).trans (((cell_far (p := ⟨gbz16, _, none⟩) NBz1_z16.out _).trans (hHeld.2))))⟩ (fun hHeld => ?_)
 clear hK K
 refine pu_ 14 (some 5) HT_ rfl rfl (.inl ⟨by rfl, by intro w'; go_simp; with_reducible rfl⟩) (by simp only [Act.put, sa_, s0_, s1_, i64_w, i32_w]; rfl) ?_
 refine done_ (done_of HT_.out (by kernel_rfl)) ?_
 have hnb25 := NBz16_z1.out
 have hnc25 := NBz1_z16.out
 have hnb26 := NBz16_z2.out
 have hnc26 := NBz2_z16.out
 obtain ⟨hcz27_0, hcz27_1⟩ := bc2 BKz16
 obtain ⟨hfz27_0, hfz27_1⟩ := bf2 BKz16
 obtain ⟨hcz28_0, hcz28_1, hcz28_2, hcz28_3, hcz28_4⟩ := bc5 BKz2
 obtain ⟨hfz28_0, hfz28_1, hfz28_2, hfz28_3, hfz28_4⟩ := bf5 BKz2
 try go_wp2
 refine bodyPost_ret (results_ct rfl _ _ gbz2 56 #[.slice Ao21 tz9.length co21, .slice Ao23 tz12.length co23, .int .i64 0, .int .i64 0, .int .i64 0] (0, 0) _ rfl (by (with_reducible repeat (first | refine blk_drewN ?_ _ | refine bkD ?_ | refine bkA ?_ _)); apply bp5; refine blk_far ?_ NBz2_z16.out _; refine blk_far ?_ NBz2_z16.out _; exact pk BKz2) Try.underlying56 rfl (by kernel_rfl)) rfl ?_
 exact ⟨_, _, by first | rfl | (simp <;> rfl) | (simp [*] <;> rfl), by (with_reducible repeat first | apply ra | apply rn | apply rd); exact Kd.R_mono (rf5 (rf2 (Kd.R_types (Kd.R_types HOz11.out BKz16.out (by decide)) BKz2.out (by decide)) (fun _ hk => hk.1.2)) (fun _ hk => hk.2)) (fun _ hk => trivial), by (with_reducible repeat first | apply ra | apply rn | apply rd); exact Kd.R_mono (rf5 (rf2 (Kd.R_types (Kd.R_types HOz14.out BKz16.out (by decide)) BKz2.out (by decide)) (fun _ hk => hk.1.2)) (fun _ hk => hk.2)) (fun _ hk => trivial), by repeat first | (with_reducible first | exact HB.out | apply ba | apply bn | apply bd | refine bs (by assumption) ?_) | exact HB.out⟩
end Go.Proofs.Ytcfinlmocgbnbaa.Pr
end
section
namespace Go.Proofs.Ytcfinlmocgbnbaa.Pr
open Go.Proofs.Ytcfinlmocgbnbaa.Sq Go.RowKit Go.Proofs.YtcfinlmocgbnbaaW.PrintWords Go.Proofs.YtcfinlmocgbnbaaW.PrintLast Go.Proofs.YtcfinlmocgbnbaaW.PrintMore
attribute [local go_sem] max2_int min2_int max_two min_two max_three min_three max_four min_four
set_option linter.unusedVariables false
set_option linter.unusedSimpArgs false
def vault_book_wide.f (l0_0 : List ByteArray) (l0_1 : List (S24)) (a0_2 : Int) (a0_3 : Int) (a0_4 : Int) : Option (Int) := some (wrap64 (Int.tdiv (wrap64 ((l0_0.length : Int) - 2)) 2))
set_option maxHeartbeats 8000000 in
set_option maxRecDepth 100000 in
theorem vault_book_wide.calls (A0_0 : Option Addr) (c0_0 : Nat) (l0_0 : List ByteArray) (A0_1 : Option Addr) (c0_1 : Nat) (l0_1 : List (S24)) (a0_2 : Int) (a0_3 : Int) (a0_4 : Int) (r : Int) (w : World) (hr0_0 : Kd.C Kd.string w A0_0 l0_0.length l0_0) (hc0_0 : l0_0.length ≤ c0_0) (hr0_1 : Kd.C k24 w A0_1 l0_1.length l0_1) (hc0_1 : l0_1.length ≤ c0_1) (h : vault_book_wide.f l0_0 l0_1 a0_2 a0_3 a0_4 = some r) :
  Calls Try.prog 79 #[.agg #[.slice A0_0 l0_0.length c0_0, .slice A0_1 l0_1.length c0_1, .int .i64 a0_2, .int .i64 a0_3, .int .i64 a0_4]] w fun e w' => e = .returned (.int .i64 r) ∧ Below w.heap.size w w' := by
 have hu89 := Try.underlying89
 have HR0_0 := am hr0_0
 have HC0_0 := am hc0_0
 clear hr0_0 hc0_0
 have HR0_1 := am hr0_1
 have HC0_1 := am hc0_1
 clear hr0_1 hc0_1
 have HB := am (Below.refl w.heap.size w)
 have H : (some (wrap64 (Int.tdiv (wrap64 ((l0_0.length : Int) - 2)) 2))) = some r := h
 clear h
 obtain rfl := Option.some.inj H
 go_enter Try.func79, Try.ntmps79
 go_wp2_with (first | ((with_reducible refine gate_dst (N := 1) rfl ?_); refine box_event ?hg (N := 1) ?hd (cs := #[.slice A0_0 l0_0.length c0_0, .slice A0_1 l0_1.length c0_1, .int .i64 a0_2, .int .i64 a0_3, .int .i64 a0_4]) (t := 89) ?hr ?_; (case hd => rfl); (case hg => rfl); (case hr => first | (go_simp; done) | (go_simp; rfl)); intro gbz1 hg w2 hbox hb; have n0_ := am (below_step (pb HB) hb); have n1_ := am (hbox); have n2_ := ge_ hg (pb HB); have n3_ := ge_ hg (pb HB); clear HB; have HB := n0_; have BKz1 := n1_; have GWz1 := n2_; have GEz1 := n3_; clear n0_ n1_ n2_ n3_; clear hb hbox hg; obtain ⟨hcz3_0, hcz3_1, hcz3_2, hcz3_3, hcz3_4⟩ := bc5 BKz1; obtain ⟨hfz3_0, hfz3_1, hfz3_2, hfz3_3, hfz3_4⟩ := bf5 BKz1))
 go_ret
 exact ⟨by first | rfl | (simp <;> rfl) | (simp [*] <;> rfl), by repeat first | (with_reducible first | exact HB.out | apply ba | apply bn | apply bd | refine bs (by assumption) ?_) | exact HB.out⟩
end Go.Proofs.Ytcfinlmocgbnbaa.Pr
end
section
namespace Go.Proofs.Ytcfinlmocgbnbaa.Pr
open Go.Proofs.Ytcfinlmocgbnbaa.Sq Go.RowKit Go.Proofs.YtcfinlmocgbnbaaW.PrintWords Go.Proofs.YtcfinlmocgbnbaaW.PrintLast Go.Proofs.YtcfinlmocgbnbaaW.PrintMore
attribute [local go_sem] max2_int min2_int max_two min_two max_three min_three max_four min_four
set_option linter.unusedVariables false
set_option linter.unusedSimpArgs false
def vault_book_room.f (l0_0 : List ByteArray) (l0_1 : List (S24)) (a0_2 : Int) (a0_3 : Int) (a0_4 : Int) : Option (Int) := (vault_book_wide.f l0_0 l0_1 a0_2 a0_3 a0_4).bind fun tz2 => (some (wrap64 (tz2 * 64)))
set_option maxHeartbeats 8000000 in
set_option maxRecDepth 100000 in
theorem vault_book_room.calls (A0_0 : Option Addr) (c0_0 : Nat) (l0_0 : List ByteArray) (A0_1 : Option Addr) (c0_1 : Nat) (l0_1 : List (S24)) (a0_2 : Int) (a0_3 : Int) (a0_4 : Int) (r : Int) (w : World) (hr0_0 : Kd.C Kd.string w A0_0 l0_0.length l0_0) (hc0_0 : l0_0.length ≤ c0_0) (hr0_1 : Kd.C k24 w A0_1 l0_1.length l0_1) (hc0_1 : l0_1.length ≤ c0_1) (h : vault_book_room.f l0_0 l0_1 a0_2 a0_3 a0_4 = some r) :
  Calls Try.prog 58 #[.agg #[.slice A0_0 l0_0.length c0_0, .slice A0_1 l0_1.length c0_1, .int .i64 a0_2, .int .i64 a0_3, .int .i64 a0_4]] w fun e w' => e = .returned (.int .i64 r) ∧ Below w.heap.size w w' := by
 have hu89 := Try.underlying89
 have HR0_0 := am hr0_0
 have HC0_0 := am hc0_0
 clear hr0_0 hc0_0
 have HR0_1 := am hr0_1
 have HC0_1 := am hc0_1
 clear hr0_1 hc0_1
 have HB := am (Below.refl w.heap.size w)
 have H : ((vault_book_wide.f l0_0 l0_1 a0_2 a0_3 a0_4).bind fun tz2 => (some (wrap64 (tz2 * 64)))) = some r := h
 clear h
 replace H := ob_ H
 obtain ⟨tz2, A20, H⟩ := H
 replace H : (some (wrap64 (tz2 * 64))) = some r := H
 have A2 := Aside0.mk A20
 clear A20
 obtain rfl := Option.some.inj H
 go_enter Try.func58, Try.ntmps58
 go_wp2_with (first | ((with_reducible refine gate_dst (N := 1) rfl ?_); refine box_event ?hg (N := 1) ?hd (cs := #[.slice A0_0 l0_0.length c0_0, .slice A0_1 l0_1.length c0_1, .int .i64 a0_2, .int .i64 a0_3, .int .i64 a0_4]) (t := 89) ?hr ?_; (case hd => rfl); (case hg => rfl); (case hr => first | (go_simp; done) | (go_simp; rfl)); intro gbz1 hg w3 hbox hb; have n0_ := am (below_step (pb HB) hb); have n1_ := am (hbox); have n2_ := ge_ hg (pb HB); have n3_ := ge_ hg (pb HB); clear HB; have HB := n0_; have BKz1 := n1_; have GWz1 := n2_; have GEz1 := n3_; clear n0_ n1_ n2_ n3_; clear hb hbox hg; obtain ⟨hcz4_0, hcz4_1, hcz4_2, hcz4_3, hcz4_4⟩ := bc5 BKz1; obtain ⟨hfz4_0, hfz4_1, hfz4_2, hfz4_3, hfz4_4⟩ := bf5 BKz1) | ((with_reducible refine gate_callee (f := 79) rfl ?_); refine goesL_ (some 4) rfl rfl Try.func79 (by kernel_rfl) rfl #[.agg #[.slice A0_0 l0_0.length c0_0, .slice A0_1 l0_1.length c0_1, .int .i64 a0_2, .int .i64 a0_3, .int .i64 a0_4]] rfl (by (try simp only [List.map_toArray, List.map_cons, List.map_nil]) <;> rfl) ?_; (with_reducible refine (vault_book_wide.calls _ _ l0_0 _ _ l0_1 a0_2 a0_3 a0_4 tz2 _ ?side1 ?side2 ?side3 ?side4 A2.out).mono ?_); (case side1 => repeat (first | exact (Kd.C_below HR0_0.out HB.out) | (with_reducible refine Kd.C_alloc ?_ _) | (with_reducible refine Kd.C_drewN ?_ _) | (with_reducible refine Kd.C_drew ?_))); (case side2 => exact HC0_0.out); (case side3 => repeat (first | exact (Kd.C_below HR0_1.out HB.out) | (with_reducible refine Kd.C_alloc ?_ _) | (with_reducible refine Kd.C_drewN ?_ _) | (with_reducible refine Kd.C_drew ?_))); (case side4 => exact HC0_1.out); rintro e w5 ⟨rfl, hb⟩; refine ⟨_, rfl, ?_⟩; have n0_ := am (bkB (pk BKz1) hb); have n1_ := am (below_step (by repeat first | (with_reducible first | exact HB.out | apply ba | apply bn | apply bd | refine bs (by assumption) ?_) | exact HB.out) hb); clear BKz1; clear HB; have BKz1 := n0_; have HB := n1_; clear n0_ n1_; (try clear hi)))
 go_ret
 exact ⟨by first | rfl | (simp <;> rfl) | (simp [*] <;> rfl), by repeat first | (with_reducible first | exact HB.out | apply ba | apply bn | apply bd | refine bs (by assumption) ?_) | exact HB.out⟩
end Go.Proofs.Ytcfinlmocgbnbaa.Pr
end
