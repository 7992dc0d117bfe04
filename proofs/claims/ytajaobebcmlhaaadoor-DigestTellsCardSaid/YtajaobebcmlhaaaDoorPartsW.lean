/-
  The law DigestParts: walked. Condition: the words of the rounds lie where the program has them; the list is one of int's.
-/
import Derived.Test.YtajaobebcmlhaaaDoorParts
import Derived.Test.YtajaobebcmlhaaaDoorLong
namespace Go.Proofs.YtajaobebcmlhaaaDoor.Pr
open Go.RowKit Go.Shelf Go.Proofs.YtajaobebcmlhaaaDoor.XB Go.Proofs.Sha Go.Proofs.YtajaobebcmlhaaaDoorW.PrintWords
attribute [local go_sem] Oper.semAt_some
set_option linter.unusedVariables false
set_option linter.unusedSimpArgs false
theorem hsc_same (x y : Hs) : (hsc x).size = (hsc y).size := rfl
instance (W : World) : Two W W.drew := ⟨below_drew1 (Below.refl _ _)⟩
set_option maxRecDepth 100000 in
set_option maxHeartbeats 4000000 in
theorem parts_calls (s : ByteArray) (a : Option Addr) (zs : List Int) (cap : Nat) (w : World) (hG : Tbl w) (hr : ReadsInt w .i64 a zs.length zs) (hw : ∀ x ∈ zs, (Lit.int .i64 x).wf = true) :
    Calls Tryd.prog 4 #[.string s, .slice a zs.length cap] w fun e w' => e = .returned (.bool true) ∧ Below w.heap.size w w' := by
  have HG := Lib.hid hG
  have HR := Lib.hid hr
  clear hG hr
  have hm0 : (0 : Int) ≤ min (s.size : Int) 500 := by omega
  have hm1 : min (s.size : Int) 500 ≤ (s.size : Int) := by omega
  go_enter Tryd.func4, Tryd.ntmps4
  go_wp2_with (first
    | (go_at_call 14; with_reducible refine (awake_calls _ HG.out).mono ?_; rintro e W1 ⟨rfl, hb⟩; have HB1 := Lib.hid hb; clear hb)
    | (go_at_call 18; with_reducible refine (new_calls _).mono ?_; rintro e W2 ⟨rfl, hb⟩; have HB2 := Lib.hid (HB1.out.trans (hb.mono HB1.out.size)); clear hb)
    | (with_reducible refine wpList_store_row rfl 25 (.tmp 7) (.tmp 31) rfl W2.heap.size (hsc newH) rfl (by first | rfl | kernel_rfl) 25 _ (heap_alloc_new W2 _) (by kernel_rfl) (by first | rfl | kernel_rfl) (by first | rfl | kernel_rfl) ?_; generalize hX : World.setRow _ W2.heap.size (hsc newH) = X3; have HR3 := (show Hid (X3.heap[W2.heap.size]? = some (.cells (hsc newH) 25 (0, 0))) from Lib.hid (by rw [← hX]; exact setRow_heap _ W2.heap.size _ (hsc newH) 25 (0, 0) (heap_alloc_new W2 _))); have HX3 := (show Hid (Below w.heap.size w X3) from Lib.hid (HB2.out.trans (by rw [← hX]; exact (below_setRow (below_alloc (Below.refl W2.heap.size W2) _) (Nat.le_refl _) (hsc newH)).mono HB2.out.size))); clear hX))
  have hxs : (s.extract 0 (min (s.size : Int) 500).toNat).size ≤ 500 := by rw [ByteArray.size_extract]; omega
  generalize s.extract 0 (min (s.size : Int) 500).toNat = x at *
  clear hm0 hm1
  have z2 : w.heap.size ≤ W2.heap.size := HB2.out.size
  have z3 : W2.heap.size < X3.heap.size := blk_lt HR3.out
  go_loopw [8, 9] (fun v8 v9 X => ∃ at_ i : Nat, v8 = .int .i64 at_ ∧ v9 = .int .i64 i ∧ at_ ≤ x.size ∧ X.heap[W2.heap.size]? = some (.cells (hsc (st (x.extract 0 at_))) 25 (0, 0)) ∧ Below w.heap.size w X)
    (fun _ v9 _ => 10 - (intOf v9).toNat)
  case atStart => exact ⟨0, 0, rfl, rfl, by omega, by rw [show x.extract 0 0 = ByteArray.empty by simp, ← new_st]; exact HR3.out, HX3.out⟩
  case round =>
    obtain ⟨at_, i, rfl, rfl, hat, hRow, hB⟩ := hrel
    have hRb := HR.out.below hB
    have HROW := Lib.hid hRow
    have HB := Lib.hid hB
    clear hRow hB
    by_cases hi : (i : Int) < zs.length ∧ (i : Int) < 10
    · obtain ⟨hi1, hi2⟩ := hi
      obtain ⟨ad, rfl, hc⟩ := hRb.at_ (i : Int) (by omega) hi1
      rw [Int.toNat_natCast] at hc
      have hcw : (Lit.int .i64 (rd zs i)).wf = true := by
        unfold rd
        rw [Int.toNat_natCast, List.getD_eq_getElem?_getD, List.getElem?_eq_getElem (by omega)]
        exact hw _ (List.getElem_mem _)
      have i0 : IntKind.i64.min = -9223372036854775808 := rfl
      have i1 : IntKind.i64.max = 9223372036854775807 := rfl
      simp only [Lit.wf, Bool.and_eq_true, decide_eq_true_eq] at hcw
      generalize rd zs i = r at *
      obtain ⟨p, hp, hp1⟩ : ∃ p : Nat, pickN r ((x.size : Int) - (at_ : Int) + 1) = (p : Int) ∧ at_ + p ≤ x.size := ⟨(pickN r ((x.size : Int) - (at_ : Int) + 1)).toNat, by
        have h1 := Int.emod_nonneg (if r < 0 then -(r + 1) else r) (show ((x.size : Int) - (at_ : Int) + 1) ≠ 0 by omega)
        unfold pickN; omega, by
        have h1 := Int.emod_nonneg (if r < 0 then -(r + 1) else r) (show ((x.size : Int) - (at_ : Int) + 1) ≠ 0 by omega)
        have h2 := Int.emod_lt_of_pos (if r < 0 then -(r + 1) else r) (show 0 < ((x.size : Int) - (at_ : Int) + 1) by omega)
        unfold pickN; omega⟩
      have hpk := fun W => pick_calls r ((x.size : Int) - (at_ : Int) + 1) W (by omega) (by omega) (by omega) (by omega)
      rw [hp] at hpk
      have HPK := Lib.hid hpk
      clear hpk hp i0 i1 hcw
      obtain ⟨V, hV⟩ : ∃ V, V = wr := ⟨_, rfl⟩
      subst hV
      have HGr := Lib.hid (HG.out.below HB.out)
      have ka : ((at_ : Int) + (p : Int)).toNat = at_ + p := by omega
      have kb : 0 ≤ (at_ : Int) + (p : Int) := by omega
      have kc : (at_ : Int) + (p : Int) ≤ (x.size : Int) := by omega
      have kd : (at_ : Int) ≤ (at_ : Int) + (p : Int) := by omega
      go_wp2_with (first
        | (go_at_call 22; with_reducible refine (HPK.out _).mono ?_; rintro e W5 ⟨rfl, rfl⟩))
      obtain ⟨A, hAe⟩ : ∃ A, A = st (x.extract 0 at_) := ⟨_, rfl⟩
      obtain ⟨B, hBe⟩ : ∃ B, B = st (x.extract 0 (at_ + p)) := ⟨_, rfl⟩
      have ha := fun W (q : Tbl W) => add_calls (st (x.extract 0 at_)) (x.extract at_ (at_ + p)) W q
      rw [st_add _ _ (by rw [ByteArray.size_extract, ByteArray.size_extract]; omega), cut_app x at_ (at_ + p) (by omega) hp1, ← hAe, ← hBe] at ha
      rw [← hAe] at HROW
      simp only [hsc] at ha
      have HAD := Lib.hid ha
      have zg : W2.heap.size < W5.heap.size := blk_lt HROW.out
      have HBE := Lib.hid hBe
      clear ha hAe hBe
      go_cut [11, 12] from 54 to 63 (fun v11 v12 wx => ∃ g', v11 = .pointer (some ⟨g', 0, none⟩) ∧ v12 = .int .i64 0 ∧ wx.heap[g']? = some (.cells (hsc (B)) 25 (0, 0)) ∧ W5.heap.size ≤ g' ∧ Below W5.heap.size W5 wx)
      case first =>
        have hr1 := HROW.out
        unfold hsc at hr1
        have c0 := (blk_cell hr1 0).trans rfl
        have c1 := (blk_cell hr1 1).trans rfl
        have c2 := (blk_cell hr1 2).trans rfl
        have c3 := (blk_cell hr1 3).trans rfl
        have c4 := (blk_cell hr1 4).trans rfl
        have c5 := (blk_cell hr1 5).trans rfl
        have c6 := (blk_cell hr1 6).trans rfl
        have c7 := (blk_cell hr1 7).trans rfl
        have c8 := (blk_cell hr1 8).trans rfl
        have c9 := (blk_cell hr1 9).trans rfl
        have f0 : ∀ (W : World) (o : Obj), (W.alloc o).heap = W.heap.push o := fun _ _ => rfl
        have f1 : ∀ (W : World), W.drew.heap = W.heap := fun _ => rfl
        have f5 : ∀ (xs : Array Obj) (o : Obj) (i : Nat), (xs.push o)[i]? = if i = xs.size then some o else xs[i]? := fun _ _ _ => Array.getElem?_push
        have f6 : ∀ (xs : Array Obj) (o : Obj), (xs.push o).size = xs.size + 1 := fun _ _ => Array.size_push ..
        clear hr1
        go_region_with ((go_at_call 17; refine (HAD.out _ (HGr.out.below (two_below (Below.refl W5.heap.size W5)))).mono ?_; rintro e W6 ⟨rfl, hb⟩; have B6 := Lib.hid (two_chain (Below.refl W5.heap.size W5) hb); (first | have Gk := (show W6.heap[W5.heap.size]? = some (.cells #[.int .u32 0, .int .u32 0, .int .u32 0, .int .u32 0, .int .u32 0, .int .u32 0, .int .u32 0, .int .u32 0, .string ⟨#[]⟩, .int .i64 0] 25 (0, 0)) from blk_same (by exact heap_alloc_new W5 _) hb) | skip); (first | (have y0 := (blk_cell Gk 0).trans rfl; have x0 := blk_frozen Gk 0; have y1 := (blk_cell Gk 1).trans rfl; have x1 := blk_frozen Gk 1; have y2 := (blk_cell Gk 2).trans rfl; have x2 := blk_frozen Gk 2; have y3 := (blk_cell Gk 3).trans rfl; have x3 := blk_frozen Gk 3; have y4 := (blk_cell Gk 4).trans rfl; have x4 := blk_frozen Gk 4; have y5 := (blk_cell Gk 5).trans rfl; have x5 := blk_frozen Gk 5; have y6 := (blk_cell Gk 6).trans rfl; have x6 := blk_frozen Gk 6; have y7 := (blk_cell Gk 7).trans rfl; have x7 := blk_frozen Gk 7; have y8 := (blk_cell Gk 8).trans rfl; have x8 := blk_frozen Gk 8; have y9 := (blk_cell Gk 9).trans rfl; have x9 := blk_frozen Gk 9) | skip)))
        all_goals (go_wp2_with fail; go_meet)
        all_goals first
          | (have hG := Gk
             refine ⟨_, rfl, rfl, put10 Gk, by omega, ?_⟩
             exact B6.out.trans (gb_toBelow (gb_put10 _) B6.out.size (by omega)))
          | (refine ⟨_, rfl, rfl, ?_, B6.out.size, ?_⟩
             · first | with_reducible exact heap_alloc_new W6 _ | exact heap_alloc_new W6 _
             · first | with_reducible exact below_alloc B6.out _ | with_reducible exact below_drew1 (below_alloc B6.out _))

      case rest =>
        obtain ⟨g', rfl, rfl, hrow', hgw', hB3⟩ := hcut
        have hsz : (x.extract 0 (at_ + p)).size = at_ + p := by rw [ByteArray.size_extract]; omega
        obtain ⟨O, hO, hO1⟩ := st_end (x.extract 0 (at_ + p)) (by omega)
        have hBm : B.many = (at_ : Int) + (p : Int) := by rw [HBE.out]; show ((x.extract 0 (at_ + p)).size : Int) = _; rw [hsz]; omega
        have hBr : rightH B = true := by rw [HBE.out]; exact st_right _ (by omega)
        have HE : Hid (∀ W, Tbl W → Calls Tryd.prog 23 #[.agg (hsc B)] W fun e w' => e = .returned (.tuple #[.string O, .int .i64 0]) ∧ Below W.heap.size W w') := Lib.hid (fun W q => by have := end_calls B W q; rw [HBE.out, hO] at this; rw [HBE.out]; exact this)
        have HS : Hid (∀ W, Tbl W → Calls Tryd.prog 27 #[.string (x.extract 0 (at_ + p))] W fun e w' => e = .returned (.tuple #[.string O, .int .i64 0]) ∧ Below W.heap.size W w') := Lib.hid (fun W q => by have := sum_calls (x.extract 0 (at_ + p)) W q; rw [st_sum _ (by omega), hO] at this; exact this)
        have hri := fun W => right_any B W
        simp only [hsc, hBr, hBm] at hri
        have HRI := Lib.hid hri
        have HW3 := Lib.hid hrow'
        have HGc := Lib.hid (HGr.out.below hB3)
        have HBc := Lib.hid hB3
        have HBM := Lib.hid hBm
        have HRW := Lib.hid (blk_same HROW.out hB3)
        clear hri hrow' hB3 hBm hBr hO hO1 HAD
        go_wp2_with (first
          | (with_reducible refine wpList_load_row rfl 25 (.tmp 11) rfl g' rfl 25 (hsc B) (0, 0) _ HW3.out Tryd.underlying25 rfl (by kernel_rfl) ?_)
          | (go_at_call 23; with_reducible refine (HE.out _ HGc.out).mono ?_; rintro e W7 ⟨rfl, hb⟩; have HB7 := Lib.hid hb; clear hb)
          | (go_at_call 27; with_reducible refine (HS.out _ (HGc.out.below HB7.out)).mono ?_; rintro e W8 ⟨rfl, hb⟩; have HB8 := Lib.hid (HB7.out.trans (hb.mono HB7.out.size)); clear hb; have hr8 := blk_same HW3.out HB8.out; unfold hsc at hr8; rw [HBM.out] at hr8; have c0 := (blk_cell hr8 0).trans rfl; have c1 := (blk_cell hr8 1).trans rfl; have c2 := (blk_cell hr8 2).trans rfl; have c3 := (blk_cell hr8 3).trans rfl; have c4 := (blk_cell hr8 4).trans rfl; have c5 := (blk_cell hr8 5).trans rfl; have c6 := (blk_cell hr8 6).trans rfl; have c7 := (blk_cell hr8 7).trans rfl; have c8 := (blk_cell hr8 8).trans rfl; have c9 := (blk_cell hr8 9).trans rfl; clear hr8)
          | (go_at_call 25; with_reducible refine (HRI.out _).mono ?_; rintro e W9 ⟨rfl, hb⟩; have HB9 := Lib.hid (HB8.out.trans (hb.mono HB8.out.size)); clear hb c0 c1 c2 c3 c4 c5 c6 c7 c8 c9; have HR9 := Lib.hid (blk_same HW3.out HB9.out); have HR2 := Lib.hid (blk_same HRW.out HB9.out))
          | (with_reducible refine wpList_load_row rfl 25 (.tmp 11) rfl g' rfl 25 (hsc B) (0, 0) _ HR9.out Tryd.underlying25 rfl (by kernel_rfl) ?_)
          | (with_reducible refine wpList_store_row rfl 25 (.tmp 7) (.tmp 101) rfl W2.heap.size (hsc B) rfl (by first | rfl | kernel_rfl) 25 _ HR2.out (by kernel_rfl) (hsc_same _ _) (by first | rfl | kernel_rfl) ?_; generalize hX : World.setRow _ W2.heap.size (hsc B) = XA; have HXA := (show Hid (XA.heap[W2.heap.size]? = some (.cells (hsc B) 25 (0, 0))) from Lib.hid (by rw [← hX]; exact setRow_heap _ W2.heap.size _ (hsc B) 25 (0, 0) HR2.out)); have HGA := (show Hid (Gb W2.heap.size W9 XA) from Lib.hid (by rw [← hX]; exact gb_setRow (hsc B))); clear hX))
        go_roundw
        case rel =>
          have b9 : Below w.heap.size w W9 := (HB.out.trans (HBc.out.mono HB.out.size)).trans (HB9.out.mono (HB.out.trans (HBc.out.mono HB.out.size)).size)
          exact ⟨at_ + p, i + 1, congrArg (Value.int .i64) (by omega), congrArg (Value.int .i64) (by omega), hp1, by rw [← HBE.out]; exact HXA.out, b9.trans (gb_toBelow HGA.out b9.size (by omega))⟩
        case measure => simp [intOf]; omega
    · obtain ⟨A, hAe⟩ : ∃ A, A = st (x.extract 0 at_) := ⟨_, rfl⟩
      obtain ⟨B, hBe⟩ : ∃ B, B = st x := ⟨_, rfl⟩
      have ha := fun W (q : Tbl W) => add_calls (st (x.extract 0 at_)) (x.extract at_ x.size) W q
      rw [st_add _ _ (by rw [ByteArray.size_extract, ByteArray.size_extract]; omega), cut_app x at_ x.size hat (Nat.le_refl _), ByteArray.extract_zero_size, ← hAe, ← hBe] at ha
      rw [← hAe] at HROW
      simp only [hsc] at ha
      have HAD := Lib.hid ha
      obtain ⟨O, hO, hO1⟩ := st_end x (by omega)
      have HE : Hid (∀ W, Tbl W → Calls Tryd.prog 23 #[.agg (hsc B)] W fun e w' => e = .returned (.tuple #[.string O, .int .i64 0]) ∧ Below W.heap.size W w') := Lib.hid (fun W q => by have := end_calls B W q; rw [hBe, hO] at this; rw [hBe]; exact this)
      have HS : Hid (∀ W, Tbl W → Calls Tryd.prog 27 #[.string x] W fun e w' => e = .returned (.tuple #[.string O, .int .i64 0]) ∧ Below W.heap.size W w') := Lib.hid (fun W q => by have := sum_calls x W q; rw [st_sum _ (by omega), hO] at this; exact this)
      have HNA : Hid (∀ W, Tbl W → Calls Tryd.prog 17 #[.agg (hsc newH), .string x] W fun e w' => e = .returned (.tuple #[.agg (hsc B), .int .i64 0]) ∧ Below W.heap.size W w') := Lib.hid (fun W q => by have := add_calls newH x W q; rw [st_new x (by omega), ← hBe] at this; exact this)
      have hsm := fun W => same_calls B W
      simp only [hsc] at hsm
      have HSM := Lib.hid hsm
      have HGr := Lib.hid (HG.out.below HB.out)
      obtain ⟨V, hV⟩ : ∃ V, V = wr := ⟨_, rfl⟩
      subst hV
      have zg : W2.heap.size < V.heap.size := blk_lt HROW.out
      clear ha hAe hBe hO hO1 hsm
      have ka : (at_ : Int) ≤ (x.size : Int) := by omega
      have hor : ¬ ((i : Int) < zs.length) ∨ (((i : Int) < zs.length) ∧ ¬ (i : Int) < 10) := by omega
      rcases hor with h1 | ⟨h1, h2⟩ <;> (
        go_wp2_with fail
        go_cut [17, 18] from 103 to 111 (fun v11 v12 wx => ∃ g', v11 = .pointer (some ⟨g', 0, none⟩) ∧ v12 = .int .i64 0 ∧ wx.heap[g']? = some (.cells (hsc (B)) 25 (0, 0)) ∧ V.heap.size ≤ g' ∧ Below V.heap.size V wx)
        case first =>
          have hr1 := HROW.out
          unfold hsc at hr1
          have c0 := (blk_cell hr1 0).trans rfl
          have c1 := (blk_cell hr1 1).trans rfl
          have c2 := (blk_cell hr1 2).trans rfl
          have c3 := (blk_cell hr1 3).trans rfl
          have c4 := (blk_cell hr1 4).trans rfl
          have c5 := (blk_cell hr1 5).trans rfl
          have c6 := (blk_cell hr1 6).trans rfl
          have c7 := (blk_cell hr1 7).trans rfl
          have c8 := (blk_cell hr1 8).trans rfl
          have c9 := (blk_cell hr1 9).trans rfl
          have f0 : ∀ (W : World) (o : Obj), (W.alloc o).heap = W.heap.push o := fun _ _ => rfl
          have f1 : ∀ (W : World), W.drew.heap = W.heap := fun _ => rfl
          have f5 : ∀ (xs : Array Obj) (o : Obj) (i : Nat), (xs.push o)[i]? = if i = xs.size then some o else xs[i]? := fun _ _ _ => Array.getElem?_push
          have f6 : ∀ (xs : Array Obj) (o : Obj), (xs.push o).size = xs.size + 1 := fun _ _ => Array.size_push ..
          clear hr1
          go_region_with ((go_at_call 17; refine (HAD.out _ (HGr.out.below (two_below (Below.refl V.heap.size V)))).mono ?_; rintro e W6 ⟨rfl, hb⟩; have B6 := Lib.hid (two_chain (Below.refl V.heap.size V) hb); (first | have Gk := (show W6.heap[V.heap.size]? = some (.cells #[.int .u32 0, .int .u32 0, .int .u32 0, .int .u32 0, .int .u32 0, .int .u32 0, .int .u32 0, .int .u32 0, .string ⟨#[]⟩, .int .i64 0] 25 (0, 0)) from blk_same (by exact heap_alloc_new V _) hb) | skip); (first | (have y0 := (blk_cell Gk 0).trans rfl; have x0 := blk_frozen Gk 0; have y1 := (blk_cell Gk 1).trans rfl; have x1 := blk_frozen Gk 1; have y2 := (blk_cell Gk 2).trans rfl; have x2 := blk_frozen Gk 2; have y3 := (blk_cell Gk 3).trans rfl; have x3 := blk_frozen Gk 3; have y4 := (blk_cell Gk 4).trans rfl; have x4 := blk_frozen Gk 4; have y5 := (blk_cell Gk 5).trans rfl; have x5 := blk_frozen Gk 5; have y6 := (blk_cell Gk 6).trans rfl; have x6 := blk_frozen Gk 6; have y7 := (blk_cell Gk 7).trans rfl; have x7 := blk_frozen Gk 7; have y8 := (blk_cell Gk 8).trans rfl; have x8 := blk_frozen Gk 8; have y9 := (blk_cell Gk 9).trans rfl; have x9 := blk_frozen Gk 9) | skip)))
          all_goals (go_wp2_with fail; go_meet)
          all_goals first
            | (have hG := Gk
               refine ⟨_, rfl, rfl, put10 Gk, by omega, ?_⟩
               exact B6.out.trans (gb_toBelow (gb_put10 _) B6.out.size (by omega)))
            | (refine ⟨_, rfl, rfl, ?_, B6.out.size, ?_⟩
               · first | with_reducible exact heap_alloc_new W6 _ | exact heap_alloc_new W6 _
               · first | with_reducible exact below_alloc B6.out _ | with_reducible exact below_drew1 (below_alloc B6.out _))

        case rest =>
          obtain ⟨g', rfl, rfl, hrow', hgw', hB3⟩ := hcut
          have HW3 := Lib.hid hrow'
          have HGc := Lib.hid (HGr.out.below hB3)
          have HBc := Lib.hid hB3
          clear hrow' hB3 HAD
          go_wp2_with (first
            | (with_reducible refine wpList_load_row rfl 25 (.tmp 17) rfl g' rfl 25 (hsc B) (0, 0) _ HW3.out Tryd.underlying25 rfl (by kernel_rfl) ?_)
            | (go_at_call 23; with_reducible refine (HE.out _ HGc.out).mono ?_; rintro e W7 ⟨rfl, hb⟩; have HB7 := Lib.hid hb; clear hb)
            | (go_at_call 27; with_reducible refine (HS.out _ (HGc.out.below HB7.out)).mono ?_; rintro e W8 ⟨rfl, hb⟩; have HB8 := Lib.hid (HB7.out.trans (hb.mono HB7.out.size)); clear hb)
            | (go_at_call 18; with_reducible refine (new_calls _).mono ?_; rintro e W9 ⟨rfl, hb⟩; have HB9 := Lib.hid (HB8.out.trans (hb.mono HB8.out.size)); clear hb)
            | (go_at_call 17; with_reducible refine (HNA.out _ (HGc.out.below HB9.out)).mono ?_; rintro e Wa ⟨rfl, hb⟩; have HBa := Lib.hid (HB9.out.trans (hb.mono HB9.out.size)); clear hb)
            | (with_reducible refine wpList_store_row rfl 25 (.tmp 23) (.tmp 125) rfl Wa.heap.size (hsc B) rfl (by first | rfl | kernel_rfl) 25 _ (heap_alloc_new Wa _) (by kernel_rfl) (by first | rfl | kernel_rfl) (by first | rfl | kernel_rfl) ?_; generalize hX : World.setRow _ Wa.heap.size (hsc B) = XA; have hra := (show XA.heap[Wa.heap.size]? = some (.cells (hsc B) 25 (0, 0)) from (by rw [← hX]; exact setRow_heap _ Wa.heap.size _ (hsc B) 25 (0, 0) (heap_alloc_new Wa _))); have HXA := (show Hid (Below Wa.heap.size Wa XA) from Lib.hid (by rw [← hX]; exact below_setRow (below_alloc (Below.refl Wa.heap.size Wa) _) (Nat.le_refl _) (hsc B))); clear hX; have HBx := Lib.hid (HBa.out.trans (HXA.out.mono HBa.out.size)); have hrg := blk_same HW3.out HBx.out; unfold hsc at hra hrg; have c0 := (blk_cell hra 0).trans rfl; have c1 := (blk_cell hra 1).trans rfl; have c2 := (blk_cell hra 2).trans rfl; have c3 := (blk_cell hra 3).trans rfl; have c4 := (blk_cell hra 4).trans rfl; have c5 := (blk_cell hra 5).trans rfl; have c6 := (blk_cell hra 6).trans rfl; have c7 := (blk_cell hra 7).trans rfl; have c8 := (blk_cell hra 8).trans rfl; have c9 := (blk_cell hra 9).trans rfl; have d0 := (blk_cell hrg 0).trans rfl; have d1 := (blk_cell hrg 1).trans rfl; have d2 := (blk_cell hrg 2).trans rfl; have d3 := (blk_cell hrg 3).trans rfl; have d4 := (blk_cell hrg 4).trans rfl; have d5 := (blk_cell hrg 5).trans rfl; have d6 := (blk_cell hrg 6).trans rfl; have d7 := (blk_cell hrg 7).trans rfl; have d8 := (blk_cell hrg 8).trans rfl; have d9 := (blk_cell hrg 9).trans rfl; clear hra hrg)
            | (go_at_call 21; with_reducible refine (HSM.out _).mono ?_; rintro e Wb ⟨rfl, hb⟩; have HBb := Lib.hid (HBx.out.trans (hb.mono HBx.out.size)); clear hb))
          go_ret
          have b1 := HB.out.trans (HBc.out.mono HB.out.size)
          exact ⟨rfl, b1.trans (HBb.out.mono b1.size)⟩)
end Go.Proofs.YtajaobebcmlhaaaDoor.Pr
