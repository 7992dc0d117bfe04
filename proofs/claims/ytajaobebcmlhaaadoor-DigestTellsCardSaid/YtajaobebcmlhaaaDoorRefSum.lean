/-
  The reference's Sum and Whole. No condition.
-/
import Derived.Test.YtajaobebcmlhaaaDoorRefEnd
import Derived.Test.YtajaobebcmlhaaaDoorMac
namespace Go.Proofs.YtajaobebcmlhaaaDoor.Pr
open Go.RowKit Go.Shelf Go.Proofs.YtajaobebcmlhaaaDoor.XB Go.Proofs.Sha Go.Proofs.YtajaobebcmlhaaaDoorW.PrintWords
attribute [local go_sem] Oper.semAt_some
set_option linter.unusedVariables false
set_option linter.unusedSimpArgs false
set_option maxRecDepth 100000 in
theorem refsum_calls (s : ByteArray) (w : World) :
    Calls Tryd.prog 28 #[.string s] w fun e w' => e = .returned (.tuple #[.string (sumH s).1, .int .i64 (sumH s).2]) ∧ Below w.heap.size w w' := by
  by_cases hs : (s.size : Int) ≤ 1048576
  · have h0 := addH_ok s hs
    have HS := Lib.hid (show sumH s = endH (addH newH s).1 by unfold sumH; rw [if_pos hs])
    have HA := Lib.hid (fun W => refadd_calls newH s W)
    have HE := Lib.hid (fun W => refend_calls (addH newH s).1 W)
    generalize (addH newH s).1 = r at *
    generalize endH r = q at *
    simp only [h0] at HA
    rw [HS.out]
    simp only [hsc] at HE
    have hr1 : hsc r = hsc r := rfl
    go_enter Tryd.func28, Tryd.ntmps28
    go_wp2_with (first
      | (go_at_call 20; with_reducible refine (refnew_calls _).mono ?_; rintro e W1 ⟨rfl, hb⟩; have HB := Lib.hid hb; clear hb)
      | (with_reducible refine wpList_load_row rfl 25 (.tmp 4) rfl W2.heap.size rfl 25 (hsc r) (0, 0) _ HR.out Tryd.underlying25 rfl (by kernel_rfl) ?_)
      | (go_at_call 24; refine (HE.out _).mono ?_; rintro e W3 ⟨rfl, hb⟩; have HB3 := Lib.hid hb; clear hb)
      | (go_at_call 19; refine (HA.out _).mono ?_; rintro e W2 ⟨rfl, hb⟩; have HB2 := Lib.hid hb; clear hb)
      | (with_reducible refine wpList_store_row rfl 25 (.tmp 4) (.tmp 10) rfl W2.heap.size (hsc r) rfl (by first | rfl | kernel_rfl) 25 _ (heap_alloc_new W2 _) (by kernel_rfl) (by first | rfl | kernel_rfl) (by first | rfl | kernel_rfl) ?_; generalize hX : World.setRow _ W2.heap.size (hsc r) = X; have HR := (show Hid (X.heap[W2.heap.size]? = some (.cells (hsc r) 25 (0, 0))) from Lib.hid (by rw [← hX]; exact setRow_heap _ W2.heap.size _ (hsc r) 25 (0, 0) (heap_alloc_new W2 _))); have HBR := (show Hid (Below W2.heap.size W2 X) from Lib.hid (by rw [← hX]; exact below_setRow (below_alloc (Below.refl W2.heap.size W2) _) (Nat.le_refl _) (hsc r))); clear hX))
    go_ret2
    exact ⟨rfl, (((HB.out.trans (HB2.out.mono HB.out.size)).trans (HBR.out.mono (Nat.le_trans HB.out.size HB2.out.size))).trans (HB3.out.mono (Nat.le_trans HB.out.size (Nat.le_trans HB2.out.size HBR.out.size))))⟩
  · have h0 := addH_long s hs
    have HS := Lib.hid (show sumH s = (ByteArray.empty, 2) by unfold sumH; rw [if_neg hs])
    have HA := Lib.hid (fun W => refadd_calls newH s W)
    generalize (addH newH s).1 = r at *
    simp only [h0] at HA
    rw [HS.out]
    go_enter Tryd.func28, Tryd.ntmps28
    go_wp2_with (first
      | (go_at_call 20; with_reducible refine (refnew_calls _).mono ?_; rintro e W1 ⟨rfl, hb⟩; have HB := Lib.hid hb; clear hb)
      | (with_reducible refine wpList_load_row rfl 25 (.tmp 4) rfl W2.heap.size rfl 25 (hsc r) (0, 0) _ HR.out Tryd.underlying25 rfl (by kernel_rfl) ?_)
      | (go_at_call 24; refine (HE.out _).mono ?_; rintro e W3 ⟨rfl, hb⟩; have HB3 := Lib.hid hb; clear hb)
      | (go_at_call 19; refine (HA.out _).mono ?_; rintro e W2 ⟨rfl, hb⟩; have HB2 := Lib.hid hb; clear hb)
      | (with_reducible refine wpList_store_row rfl 25 (.tmp 4) (.tmp 10) rfl W2.heap.size (hsc r) rfl (by first | rfl | kernel_rfl) 25 _ (heap_alloc_new W2 _) (by kernel_rfl) (by first | rfl | kernel_rfl) (by first | rfl | kernel_rfl) ?_; generalize hX : World.setRow _ W2.heap.size (hsc r) = X; have HR := (show Hid (X.heap[W2.heap.size]? = some (.cells (hsc r) 25 (0, 0))) from Lib.hid (by rw [← hX]; exact setRow_heap _ W2.heap.size _ (hsc r) 25 (0, 0) (heap_alloc_new W2 _))); have HBR := (show Hid (Below W2.heap.size W2 X) from Lib.hid (by rw [← hX]; exact below_setRow (below_alloc (Below.refl W2.heap.size W2) _) (Nat.le_refl _) (hsc r))); clear hX))
    go_ret2
    exact ⟨rfl, ((HB.out.trans (HB2.out.mono HB.out.size)).trans (HBR.out.mono (Nat.le_trans HB.out.size HB2.out.size)))⟩
set_option maxRecDepth 100000 in
theorem whole_calls (s : ByteArray) (w : World) :
    Calls Tryd.prog 37 #[.string s] w fun e w' => e = .returned (.string (sumH s).1) ∧ Below w.heap.size w w' := by
  have HS := Lib.hid (fun W => refsum_calls s W)
  generalize sumH s = z at *
  obtain ⟨z, ze⟩ := z
  go_enter Tryd.func37, Tryd.ntmps37
  go_wp2_with (go_at_call 28; with_reducible refine (HS.out _).mono ?_; rintro e W1 ⟨rfl, hb⟩; have HB := Lib.hid hb; clear hb)
  go_ret
  exact ⟨rfl, HB.out⟩
end Go.Proofs.YtajaobebcmlhaaaDoor.Pr
