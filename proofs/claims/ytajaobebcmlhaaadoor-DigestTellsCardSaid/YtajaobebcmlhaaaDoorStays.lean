/-
  The law DigestStays: walked. Condition: the words of the rounds lie where the program has them; the text is no longer than a machine's.
-/
import Derived.Test.YtajaobebcmlhaaaDoorSum
namespace Go.Proofs.YtajaobebcmlhaaaDoor.Pr
open Go.RowKit Go.Shelf Go.Proofs.YtajaobebcmlhaaaDoor.XB Go.Proofs.Sha Go.Proofs.YtajaobebcmlhaaaDoorW.PrintWords
attribute [local go_sem] Oper.semAt_some
set_option linter.unusedVariables false
set_option linter.unusedSimpArgs false
theorem all_none (h : S8) (r : ByteArray) (hr : r.size < 64) : all h r = h := by
  unfold all
  rw [Nat.div_eq_of_lt hr]
  rfl
theorem tail_none (r : ByteArray) (hr : r.size < 64) : tailOf r = r := by
  unfold tailOf
  rw [Nat.mod_eq_of_lt hr, Nat.sub_self, ByteArray.extract_zero_size]
theorem tail_size (t : ByteArray) : (tailOf t).size = t.size % 64 := by
  unfold tailOf
  rw [ByteArray.size_extract]
  omega
theorem addH_nil (x : Hs) (h : rightH x = true) : addH x ByteArray.empty = (x, 0) := by
  obtain ⟨m0, m1, m2⟩ := (rightH_iff x).1 h
  have hr : x.rest.size < 64 := by omega
  unfold addH
  rw [if_pos h, if_neg (by show ¬ (1048576 - x.many < ((0 : Nat) : Int)); omega), ByteArray.append_empty, all_none _ _ hr, tail_none _ hr]
  show ((⟨x.H, x.rest, x.many + ((0 : Nat) : Int)⟩ : Hs), (0 : Int)) = _
  simp
theorem addH_right (x : Hs) (s : ByteArray) (h : rightH x = true) (hl : ¬ 1048576 - x.many < (s.size : Int)) : addH x s = (⟨all x.H (x.rest ++ s), tailOf (x.rest ++ s), x.many + s.size⟩, 0) ∧ rightH (addH x s).1 = true := by
  obtain ⟨m0, m1, m2⟩ := (rightH_iff x).1 h
  have e : addH x s = (⟨all x.H (x.rest ++ s), tailOf (x.rest ++ s), x.many + s.size⟩, 0) := by unfold addH; rw [if_pos h, if_neg hl]
  refine ⟨e, ?_⟩
  rw [e, rightH_iff]
  refine ⟨by simp; omega, by simp; omega, ?_⟩
  simp only [tail_size, ByteArray.size_append]
  omega
theorem endH_right (x : Hs) (h : rightH x = true) : (endH x).2 = 0 ∧ (endH x).1.size = 32 := by
  unfold endH
  rw [if_pos h]
  exact ⟨rfl, out_size _⟩
/-- What a text that is added to a new sum leaves. -/
theorem new_add (x : ByteArray) (h : x.size ≤ 500) : ∃ A O, addH newH x = (A, 0) ∧ addH A ByteArray.empty = (A, 0) ∧ endH A = (O, 0) ∧ O.size = 32 ∧ A.rest.size = x.size % 64 ∧ x.extract (x.size - A.rest.size) x.size = A.rest := by
  obtain ⟨e, r⟩ := addH_right newH x rfl (by show ¬ ((1048576 : Int) - 0 < _); omega)
  rw [e] at r
  obtain ⟨e0, e1⟩ := endH_right _ r
  refine ⟨_, _, e, addH_nil _ r, Prod.ext rfl e0, e1, ?_, ?_⟩
  · show (tailOf (ByteArray.empty ++ x)).size = _
    rw [ByteArray.empty_append, tail_size]
  · show x.extract (x.size - (tailOf (ByteArray.empty ++ x)).size) x.size = tailOf (ByteArray.empty ++ x)
    rw [ByteArray.empty_append, tail_size]
    rfl
set_option maxRecDepth 100000 in
set_option maxHeartbeats 4000000 in
theorem stays_calls (s : ByteArray) (w : World) (hG : Tbl w) :
    Calls Tryd.prog 7 #[.string s] w fun e w' => e = .returned (.bool true) ∧ Below w.heap.size w w' := by
  have HG := Lib.hid hG
  clear hG
  have hm0 : (0 : Int) ≤ min (s.size : Int) 500 := by omega
  have hm1 : min (s.size : Int) 500 ≤ (s.size : Int) := by omega
  go_enter Tryd.func7, Tryd.ntmps7
  go_wp2_with (first
    | (go_at_call 14; with_reducible refine (awake_calls _ HG.out).mono ?_; rintro e W1 ⟨rfl, hb⟩; have HB1 := Lib.hid hb; clear hb))
  have hxs : (s.extract 0 (min (s.size : Int) 500).toNat).size ≤ 500 := by rw [ByteArray.size_extract]; omega
  generalize s.extract 0 (min (s.size : Int) 500).toNat = x at *
  obtain ⟨A, O, a0, a1, a2, a3, a4, a5⟩ := new_add x hxs
  have HA : Hid (∀ W, Tbl W → Calls Tryd.prog 17 #[.agg (hsc newH), .string x] W fun e w' => e = .returned (.tuple #[.agg (hsc A), .int .i64 0]) ∧ Below W.heap.size W w') := Lib.hid (fun W h => by have := add_calls newH x W h; rw [a0] at this; exact this)
  have HN : Hid (∀ W, Tbl W → Calls Tryd.prog 17 #[.agg (hsc A), .string ⟨#[]⟩] W fun e w' => e = .returned (.tuple #[.agg (hsc A), .int .i64 0]) ∧ Below W.heap.size W w') := Lib.hid (fun W h => by have := add_calls A ByteArray.empty W h; rw [a1] at this; exact this)
  have HE : Hid (∀ W, Tbl W → Calls Tryd.prog 23 #[.agg (hsc A)] W fun e w' => e = .returned (.tuple #[.string O, .int .i64 0]) ∧ Below W.heap.size W w') := Lib.hid (fun W h => by have := end_calls A W h; rw [a2] at this; exact this)
  clear a0 a1 a2 hm0 hm1
  go_wp2_with (first
    | (go_at_call 18; with_reducible refine (new_calls _).mono ?_; rintro e W2 ⟨rfl, hb⟩; have HB2 := Lib.hid (HB1.out.trans (hb.mono HB1.out.size)); clear hb)
    | (go_at_call 17; with_reducible refine (HA.out _ (HG.out.below HB2.out)).mono ?_; rintro e W3 ⟨rfl, hb⟩; have HB3 := Lib.hid (HB2.out.trans (hb.mono HB2.out.size)); clear hb)
    | (with_reducible refine wpList_store_row rfl 25 (.tmp 5) (.tmp 23) rfl W3.heap.size (hsc A) rfl (by first | rfl | kernel_rfl) 25 _ (heap_alloc_new W3 _) (by kernel_rfl) (by first | rfl | kernel_rfl) (by first | rfl | kernel_rfl) ?_; generalize hX : World.setRow _ W3.heap.size (hsc A) = X3; have HR3 := (show Hid (X3.heap[W3.heap.size]? = some (.cells (hsc A) 25 (0, 0))) from Lib.hid (by rw [← hX]; exact setRow_heap _ W3.heap.size _ (hsc A) 25 (0, 0) (heap_alloc_new W3 _))); have HX3 := (show Hid (Below w.heap.size w X3) from Lib.hid (HB3.out.trans (by rw [← hX]; exact (below_setRow (below_alloc (Below.refl W3.heap.size W3) _) (Nat.le_refl _) (hsc A)).mono HB3.out.size))); clear hX)
    | (with_reducible refine wpList_load_row rfl 25 (.tmp 5) rfl W3.heap.size rfl 25 (hsc A) (0, 0) _ HR3.out Tryd.underlying25 rfl (by kernel_rfl) ?_)
    | (go_at_call 17; with_reducible refine (HN.out _ (HG.out.below HX3.out)).mono ?_; rintro e W4 ⟨rfl, hb⟩; have HR4 := Lib.hid (blk_same HR3.out hb); have HB4 := Lib.hid (HX3.out.trans (hb.mono HX3.out.size)); clear hb)
    | (with_reducible refine wpList_store_row rfl 25 (.tmp 7) (.tmp 28) rfl W4.heap.size (hsc A) rfl (by first | rfl | kernel_rfl) 25 _ (heap_alloc_new W4 _) (by kernel_rfl) (by first | rfl | kernel_rfl) (by first | rfl | kernel_rfl) ?_; generalize hX : World.setRow _ W4.heap.size (hsc A) = X4; have HBX := (show Hid (Below W4.heap.size W4 X4) from Lib.hid (by rw [← hX]; exact below_setRow (below_alloc (Below.refl W4.heap.size W4) _) (Nat.le_refl _) (hsc A))); have HR5 := (show Hid (X4.heap[W4.heap.size]? = some (.cells (hsc A) 25 (0, 0))) from Lib.hid (by rw [← hX]; exact setRow_heap _ W4.heap.size _ (hsc A) 25 (0, 0) (heap_alloc_new W4 _))); have HR6 := Lib.hid (blk_same HR4.out HBX.out); have HX4 := Lib.hid (HB4.out.trans (HBX.out.mono HB4.out.size)); clear hX)
    | (with_reducible refine wpList_load_row rfl 25 (.tmp 5) rfl W3.heap.size rfl 25 (hsc A) (0, 0) _ HR6.out Tryd.underlying25 rfl (by kernel_rfl) ?_)
    | (go_at_call 23; with_reducible refine (HE.out _ (HG.out.below HX4.out)).mono ?_; rintro e W5 ⟨rfl, hb⟩; have HR7 := Lib.hid (blk_same HR6.out hb); have HR8 := Lib.hid (blk_same HR5.out hb); have HB5 := Lib.hid (HX4.out.trans (hb.mono HX4.out.size)); clear hb)
    | (with_reducible refine wpList_load_row rfl 25 (.tmp 7) rfl W4.heap.size rfl 25 (hsc A) (0, 0) _ HR8.out Tryd.underlying25 rfl (by kernel_rfl) ?_)
    | (go_at_call 23; with_reducible refine (HE.out _ (HG.out.below HB5.out)).mono ?_; rintro e W6 ⟨rfl, hb⟩; have HR9 := Lib.hid (blk_same HR7.out hb); have HR0 := Lib.hid (blk_same HR8.out hb); have HB6 := Lib.hid (HB5.out.trans (hb.mono HB5.out.size)); clear hb))
  have hsm := fun W => same_calls A W
  simp only [hsc] at hsm
  have g9 := HR9.out
  have g0 := HR0.out
  unfold hsc at g9 g0
  have d0 : ∀ p : XB.In (Below W6.heap.size W6), p.w.cell? ⟨W3.heap.size, 0, none⟩ = some (.int .u32 (u A.H.a)) := fun p => (blk_cell (blk_same g9 p.h) 0).trans rfl
  have q0 : ∀ p : XB.In (Below W6.heap.size W6), p.w.cell? ⟨W4.heap.size, 0, none⟩ = some (.int .u32 (u A.H.a)) := fun p => (blk_cell (blk_same g0 p.h) 0).trans rfl
  have d1 : ∀ p : XB.In (Below W6.heap.size W6), p.w.cell? ⟨W3.heap.size, 1, none⟩ = some (.int .u32 (u A.H.b)) := fun p => (blk_cell (blk_same g9 p.h) 1).trans rfl
  have q1 : ∀ p : XB.In (Below W6.heap.size W6), p.w.cell? ⟨W4.heap.size, 1, none⟩ = some (.int .u32 (u A.H.b)) := fun p => (blk_cell (blk_same g0 p.h) 1).trans rfl
  have d2 : ∀ p : XB.In (Below W6.heap.size W6), p.w.cell? ⟨W3.heap.size, 2, none⟩ = some (.int .u32 (u A.H.c)) := fun p => (blk_cell (blk_same g9 p.h) 2).trans rfl
  have q2 : ∀ p : XB.In (Below W6.heap.size W6), p.w.cell? ⟨W4.heap.size, 2, none⟩ = some (.int .u32 (u A.H.c)) := fun p => (blk_cell (blk_same g0 p.h) 2).trans rfl
  have d3 : ∀ p : XB.In (Below W6.heap.size W6), p.w.cell? ⟨W3.heap.size, 3, none⟩ = some (.int .u32 (u A.H.d)) := fun p => (blk_cell (blk_same g9 p.h) 3).trans rfl
  have q3 : ∀ p : XB.In (Below W6.heap.size W6), p.w.cell? ⟨W4.heap.size, 3, none⟩ = some (.int .u32 (u A.H.d)) := fun p => (blk_cell (blk_same g0 p.h) 3).trans rfl
  have d4 : ∀ p : XB.In (Below W6.heap.size W6), p.w.cell? ⟨W3.heap.size, 4, none⟩ = some (.int .u32 (u A.H.e)) := fun p => (blk_cell (blk_same g9 p.h) 4).trans rfl
  have q4 : ∀ p : XB.In (Below W6.heap.size W6), p.w.cell? ⟨W4.heap.size, 4, none⟩ = some (.int .u32 (u A.H.e)) := fun p => (blk_cell (blk_same g0 p.h) 4).trans rfl
  have d5 : ∀ p : XB.In (Below W6.heap.size W6), p.w.cell? ⟨W3.heap.size, 5, none⟩ = some (.int .u32 (u A.H.f)) := fun p => (blk_cell (blk_same g9 p.h) 5).trans rfl
  have q5 : ∀ p : XB.In (Below W6.heap.size W6), p.w.cell? ⟨W4.heap.size, 5, none⟩ = some (.int .u32 (u A.H.f)) := fun p => (blk_cell (blk_same g0 p.h) 5).trans rfl
  have d6 : ∀ p : XB.In (Below W6.heap.size W6), p.w.cell? ⟨W3.heap.size, 6, none⟩ = some (.int .u32 (u A.H.g)) := fun p => (blk_cell (blk_same g9 p.h) 6).trans rfl
  have q6 : ∀ p : XB.In (Below W6.heap.size W6), p.w.cell? ⟨W4.heap.size, 6, none⟩ = some (.int .u32 (u A.H.g)) := fun p => (blk_cell (blk_same g0 p.h) 6).trans rfl
  have d7 : ∀ p : XB.In (Below W6.heap.size W6), p.w.cell? ⟨W3.heap.size, 7, none⟩ = some (.int .u32 (u A.H.h)) := fun p => (blk_cell (blk_same g9 p.h) 7).trans rfl
  have q7 : ∀ p : XB.In (Below W6.heap.size W6), p.w.cell? ⟨W4.heap.size, 7, none⟩ = some (.int .u32 (u A.H.h)) := fun p => (blk_cell (blk_same g0 p.h) 7).trans rfl
  have d8 : ∀ p : XB.In (Below W6.heap.size W6), p.w.cell? ⟨W3.heap.size, 8, none⟩ = some (.string A.rest) := fun p => (blk_cell (blk_same g9 p.h) 8).trans rfl
  have q8 : ∀ p : XB.In (Below W6.heap.size W6), p.w.cell? ⟨W4.heap.size, 8, none⟩ = some (.string A.rest) := fun p => (blk_cell (blk_same g0 p.h) 8).trans rfl
  have d9 : ∀ p : XB.In (Below W6.heap.size W6), p.w.cell? ⟨W3.heap.size, 9, none⟩ = some (.int .i64 A.many) := fun p => (blk_cell (blk_same g9 p.h) 9).trans rfl
  have q9 : ∀ p : XB.In (Below W6.heap.size W6), p.w.cell? ⟨W4.heap.size, 9, none⟩ = some (.int .i64 A.many) := fun p => (blk_cell (blk_same g0 p.h) 9).trans rfl
  have hmod : (x.size : Int).tmod 64 = (A.rest.size : Int) := by rw [Int.tmod_eq_emod_of_nonneg (by omega)]; omega
  have hle : (A.rest.size : Int) ≤ (x.size : Int) := by omega
  have hsub : ((x.size : Int) - (A.rest.size : Int)).toNat = x.size - A.rest.size := by omega
  have hb1 : IntKind.i64.wrap ((x.size : Int) - (A.rest.size : Int)) = (x.size : Int) - (A.rest.size : Int) := IntWalk.i64_in _ (by omega)
  have hb0 : 0 ≤ (x.size : Int) - (A.rest.size : Int) := by omega
  have hb2 : (x.size : Int) - (A.rest.size : Int) ≤ (x.size : Int) := by omega
  clear g9 g0 a4
  haveI hne : Nonempty (XB.In (Below W6.heap.size W6)) := ⟨⟨W6.drew, below_drew1 (Below.refl _ _)⟩⟩
  refine XB.region_all (fun w' => ∃ p : XB.In (Below W6.heap.size W6), w' = p.w) (by kernel_rfl) (by kernel_rfl) ⟨⟨W6.drew, below_drew1 (Below.refl _ _)⟩, rfl⟩ ?_
  iterate 55 quiet_step ((go_at_call 21; with_reducible exact XB.in_belowB (hsm _)))
  refine wpQuiet_nil ?_
  rintro Y ⟨⟨_, hY⟩, rfl⟩
  go_wp2
  go_ret
  exact ⟨rfl, HB6.out.trans (hY.mono HB6.out.size)⟩
end Go.Proofs.YtajaobebcmlhaaaDoor.Pr
